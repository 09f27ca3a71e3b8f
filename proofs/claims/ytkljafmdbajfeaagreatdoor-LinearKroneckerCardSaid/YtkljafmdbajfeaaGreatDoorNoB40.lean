/- exact.Equations: its walk. -/
import Derived.Test.YtkljafmdbajfeaaGreatDoorNoB39
namespace Go.Proofs.YtkljafmdbajfeaaGreatDoor
set_option linter.unusedVariables false
set_option linter.unusedSimpArgs false
open Go.Lib (hid)
section
open Go.RowKit Go.ChangeMaps
open Lp (Lt V Ech BdV Bd pivots lv cnt Gen From)
set_option maxRecDepth 100000 in
set_option maxHeartbeats 8000000 in
theorem equations_calls (n:Nat) (fs:List V) (A:Option Addr) (c:Nat) (w:World) (h:VecsP w A n fs) (h0:0<n) (hn:n≤6) (hl:fs.length≤900) (hb:∀ f∈fs,∀ i,(f i).natAbs≤30) :
 Calls Tryz.prog 114 #[.int .i64 n,.slice A fs.length c] w fun e w'=>∃ S rc rn,e=.returned (.pointer (some ⟨S,0,none⟩))∧w.heap.size≤S∧SysP w' S fs.length n rc rn∧SysV (fsF fs) fs.length n rc rn∧Below w.heap.size w w':=by
 obtain ⟨i0,hi0,hz0,hz1,hz2⟩:=info_parts infoVec
 obtain ⟨m,hm⟩:∃ m,fs.length=m:=⟨_,rfl⟩
 obtain ⟨N,hN⟩:∃ N,m+n=N:=⟨_,rfl⟩
 rw [hm] at hl ⊢
 have HM:=hid hm;have HN:=hid hN;have HH:=hid h;have HB30:Hid (∀ f∈fs,∀ i,(f i).natAbs≤30):=hid hb
 have hNk:N≤906:=by omega
 have hN0:0<N:=by omega
 have hmN:m≤N:=by omega
 have wmn:IntKind.i64.wrap ((m:Int)+n)=N:=by rw [IntKind.wrap_i64];omega
 have hmk:=fun w=>run_makeVec w N (by omega)
 have hA0:Below w.heap.size w (w.alloc (.cells #[.int .i64 n,.pointer none,.pointer none,.int .i64 m] 192 (0,0))):=(Below.refl _ _).alloc (Nat.le_refl _) _
 have hB0:Blk (w.alloc (.cells #[.int .i64 n,.pointer none,.pointer none,.int .i64 m] 192 (0,0))) w.heap.size (sysV n m none none) 192:=Blk.new w (sysV n m none none) _
 have HA0:=hid hA0;have HB0:=hid hB0
 clear hm hN h hb hA0 hB0
 go_enter Tryz.func114,Tryz.ntmps114
 go_wp2_with fail
 go_loopw [6,21] (fun tv ti wr=>∃ (j:Nat),j≤n∧ti=.int .i64 j∧Hid (VRow wr (w.heap.size+1) tv j N (jrows (fsF fs) m n))∧Hid (Blk wr w.heap.size (sysV n m none none) 192)∧Hid (Below w.heap.size w wr)) (fun _ ti _=>n-(intOf ti).toNat)
 case atStart=>exact ⟨0,Nat.zero_le _,rfl,hid ⟨[],rfl,World.ownsRow_nil _ _ _ _,OwnC.nil _ _ _ _,fun j hj=>by simp at hj⟩,HB0,HA0⟩
 case round =>
  clear HA0 HB0
  obtain ⟨wo,hwo⟩:∃ wo,wo=wr:=⟨_,rfl⟩
  subst hwo
  obtain ⟨j,hj,rfl,hP,hBl,hbe⟩:=hrel
  by_cases hlt:j<n
  ·have hn1:(j:Int)<n:=by omega
   have hS:=hBl.out.lt
   have k0:=hBl.out.cell 0 (by simp [sysV])
   have k3:=hBl.out.cell 3 (by simp [sysV])
   simp only [sysV,List.getElem_cons_zero,List.getElem_cons_succ] at k0 k3
   have hO:=OwnV.made wo N (fun _=>0)
   have hA:Below wo.heap.size wo (wo.alloc (.cells (nils N).toArray 150 (0,0))):=(Below.refl _ _).alloc (Nat.le_refl _) _
   have HO:=hid hO;have HA:=hid hA
   clear hO hA
   go_wp2_with fail
   obtain ⟨g,hg⟩:∃ g,wo.heap.size=g:=⟨_,rfl⟩
   try rw [hg]
   rw [hg] at HO
   have HGW:=hid hg
   clear hg
   go_loopw [33] (fun ti wq=>∃ (i:Nat),i≤N∧ti=.int .i64 i∧Hid (OwnV wq g N i (fun _=>0))∧Hid (Below wo.heap.size wo wq)) (fun ti _=>N-(intOf ti).toNat)
   case atStart=>exact ⟨0,Nat.zero_le _,rfl,HO,HA⟩
   case round =>
    clear HO HA
    obtain ⟨i,hi,rfl,hO,hbq⟩:=hrel
    by_cases hli:i<N
    ·have hi1:(i:Int)<N:=by omega
     have hA1:Below wr.heap.size wr (wr.alloc (.cells #[.bool false,.slice none 0 0] 196 (0,0))):=(Below.refl _ _).alloc (Nat.le_refl _) _
     have hO2:=hO.out.ext hA1
     obtain ⟨a5,hc5⟩:=hO2.ex i hli
     have hf5:=hO2.fr i
     have hst:=hO2.set (m':=i+1) (g:=fun _=>0) hli (bigZero wr) (fun j hj hne=>⟨by omega,rfl⟩)
     have HST:=hid hst;have HB:=hid (hbq.out.trans (hA1.mono hbq.out.size))
     have hgq:wo.heap.size≤g:=by rw [HGW.out];exact Nat.le_refl _
     clear hA1 hO2 hst hO hbq
     go_wp2
     go_roundw
     case rel=>exact ⟨i+1,by omega,by go_num,HST,hid (HB.out.setCell hgq _)⟩
     case measure=>simp [intOf];omega
    ·obtain rfl:N=i:=by omega
     obtain ⟨w1,hw1⟩:∃ w1,w1=wr:=⟨_,rfl⟩
     subst hw1
     have HO1:Hid (OwnV w1 g N N (fun k=>if k<0 then fsF fs k j else 0)):=hid (hO.out.congr fun k _=>by simp)
     have HB1:=hbq
     clear hO hbq
     go_wp2_with fail
     go_loopw [43] (fun ti wq=>∃ (i:Nat),i≤m∧ti=.int .i64 i∧Hid (OwnV wq g N N (fun k=>if k<i then fsF fs k j else 0))∧Hid (Below wo.heap.size wo wq)) (fun ti _=>m-(intOf ti).toNat)
     case atStart=>exact ⟨0,Nat.zero_le _,rfl,HO1,HB1⟩
     case round =>
      clear HO1 HB1
      obtain ⟨i,hi,rfl,hO,hbq⟩:=hrel
      by_cases hli:i<m
      ·have hi1:(i:Int)<m:=by omega
       have hiN:(i:Int)<N:=by omega
       have hlen:i<fs.length:=by rw [HM.out];exact hli
       obtain ⟨b1,o1,v1,rfl,q1,hv1⟩:=(HH.out.ext (hbe.out.trans (hbq.out.mono hbe.out.size))) i hlen
       obtain ⟨A2,c2,rfl,-⟩:=id hv1
       obtain ⟨b2,o2,p2,rfl,-,q2,hz2⟩:=hv1.at hlt
       rw [←fsF_at hlen] at hz2
       obtain ⟨a5,hc5⟩:=hO.out.ex i (by omega)
       have hf5:=hO.out.fr i
       have hst:=hO.out.set (i:=i) (m':=N) (g:=fun k=>if k<i+1 then fsF fs k j else 0) (by omega) (by rw [if_pos (by omega)];exact hz2) (fun k hk hne=>⟨hk,by
        by_cases h1:k<i
        ·rw [if_pos h1,if_pos (by omega)]
        ·rw [if_neg h1,if_neg (by omega)]⟩)
       have HST:=hid hst;have HB:=hbq
       have hgq:wo.heap.size≤g:=by rw [HGW.out];exact Nat.le_refl _
       clear hst hz2 hv1 hO hbq hlen
       go_wp2
       go_roundw
       case rel=>exact ⟨i+1,by omega,by go_num,HST,hid (HB.out.setCell hgq _)⟩
       case measure=>simp [intOf];omega
      ·obtain rfl:m=i:=by omega
       obtain ⟨w2,hw2⟩:∃ w2,w2=wr:=⟨_,rfl⟩
       subst hw2
       have hBl2:=hBl.out.ext hbq.out
       obtain ⟨q,hq⟩:∃ q,m+j=q:=⟨_,rfl⟩
       have wsum:IntKind.i64.wrap ((m:Int)+j)=q:=by rw [IntKind.wrap_i64];omega
       have hNN:=HN.out
       have hqN:(q:Int)<N:=by omega
       have hqN2:q<N:=by omega
       have c3:=hBl2.cell 3 (by simp [sysV])
       simp only [sysV,List.getElem_cons_zero,List.getElem_cons_succ] at c3
       have hgq:wo.heap.size≤g:=by rw [HGW.out];exact Nat.le_refl _
       have hst:∀ W pr,OwnV W g N N (fun k=>if k<m then fsF fs k j else 0)→BigP W pr 1→OwnV (W.setCell ⟨g,q,none⟩ (.pointer (some ⟨pr,0,none⟩))) g N N (jrow (fsF fs) m j):=fun W pr h1 h2=>by
        refine h1.set (i:=q) (m':=N) (g:=jrow (fsF fs) m j) hqN2 ?_ (fun k hk hne=>⟨hk,?_⟩)
        ·unfold jrow;rw [if_neg (by omega),if_pos (by omega)];exact h2
        ·show (if k<m then fsF fs k j else 0)=jrow (fsF fs) m j k
         unfold jrow
         by_cases h3:k<m
         ·rw [if_pos h3,if_pos h3]
         ·rw [if_neg h3,if_neg h3,if_neg (by omega)]
       have HSTF:=hid hst;have HQ:=hid hq
       obtain ⟨vs0,-,hq2,-⟩:=hP.out.ex
       obtain ⟨A3,c4,rfl,hc4,hc5⟩:=own_size hq2
       clear hBl2 hst hq hq2 hNN
       go_wp2_with fail
       refine wp_region_keys (w0:=w2) 9 [56,57,58,59,60,61,62,63,64]
        [leafS 56 (.slice (some ⟨g,0,none⟩) N N),leafS 57 (.pointer (some ⟨w.heap.size,0,none⟩)),leafS 58 (.pointer (some ⟨w.heap.size,0,none⟩)),leafS 59 (.pointer (some ⟨w.heap.size,3,none⟩)),leafS 60 (.int .i64 m),leafS 61 (.int .i64 j),leafS 62 (.int .i64 q),leafV 63 (fun p w=>BigP w p 1) w2.heap.size,leafS 64 (.pointer (some ⟨g,q,none⟩))]
        [63] [none,none,none,none,none,none,none,none,none] IntBlk (by kernel_rfl) (by kernel_rfl) (by kernel_rfl) rfl (F:=?cFr17) ?r17c1 ?r17c2 ?r17c3 ?r17c4
       case r17c1 =>
        intro x
        simp only [fullF,Act.put,List.setIfInBounds_toArray,List.set_cons_zero,List.set_cons_succ]
        rfl
       case r17c2 =>
        exact ⟨keeps_const _ _ _ _ _ _ _,keeps_const _ _ _ _ _ _ _,keeps_const _ _ _ _ _ _ _,keeps_const _ _ _ _ _ _ _,keeps_const _ _ _ _ _ _ _,keeps_const _ _ _ _ _ _ _,keeps_const _ _ _ _ _ _ _,keeps_key (calm_big _) _ _ _ _ _ rfl rfl,keeps_const _ _ _ _ _ _ _,trivial⟩
       case r17c3 =>
        refine ⟨?_,?_,?_,?_,?_,?_,?_,?_,?_,trivial⟩
        all_goals
         intro xx wq HE hd K hK
         have hc:=(bcell HE).1
         have c3':=(hc _ _ (cell_lt c3)).trans c3
         try have e0:xx 56=_:=hd 0 _ (by decide) rfl
         try have e1:xx 57=_:=hd 1 _ (by decide) rfl
         try have e2:xx 58=_:=hd 2 _ (by decide) rfl
         try have e3:xx 59=_:=hd 3 _ (by decide) rfl
         try have e4:xx 60=_:=hd 4 _ (by decide) rfl
         try have e5:xx 61=_:=hd 5 _ (by decide) rfl
         try have e6:xx 62=_:=hd 6 _ (by decide) rfl
         try have g7:=hd 7 _ (by decide) rfl
         try have e8:xx 64=_:=hd 8 _ (by decide) rfl
         have HE:=hid HE
         have HC:=hid hc
         clear hd hc
         all_goals go_simp
         try (refine hK _ _ _ (mv_const _ rfl) ?_;dsimp only [Act.put];first|done|rfl|(simp [*];done))
        ·refine (newInt_calls 1 wq (by omega) (by omega)).mono ?_
         rintro e w2 ⟨k,rfl,hk1,hk2,hb2⟩
         exact hK _ _ _ (mv_new hb2 HE.out.size hk1 hk2.lt hk2) (by first|(dsimp only [Act.put];done)|(dsimp only [Act.put];first|rfl|(simp [*];done)|(simp [*,ptr];done)))
       case r17c4 =>
        intro xx wz hE hG hA
        have e0:xx 56=_:=hG 0 _ rfl
        have e1:xx 57=_:=hG 1 _ rfl
        have e2:xx 58=_:=hG 2 _ rfl
        have e3:xx 59=_:=hG 3 _ rfl
        have e4:xx 60=_:=hG 4 _ rfl
        have e5:xx 61=_:=hG 5 _ rfl
        have e6:xx 62=_:=hG 6 _ rfl
        have g7:=hG 7 _ rfl
        have e8:xx 64=_:=hG 8 _ rfl
        obtain ⟨pr,h63,hpr1,hpr2⟩:=g7
        simp only [ptr] at h63
        have hO2:=hO.out.ext hE
        obtain ⟨a5,hk5⟩:=hO2.ex q hqN2
        have hf5:=hO2.fr q
        have hO3:=HSTF.out wz pr hO2 hpr2
        have hb3:Below wo.heap.size wo (wz.setCell ⟨g,q,none⟩ (.pointer (some ⟨pr,0,none⟩))):=(hbq.out.trans (hE.mono hbq.out.size)).setCell hgq _
        have HO3:=hid hO3;have HB3:=hid hb3
        clear hG hA hE hO2 hO3 hb3 hpr2 hO hbq hpr1 HSTF
        refine tail_one (i:=9) (by kernel_rfl) rfl ?_
        intro K hK
        go_simp
        refine hK _ _ ?_
        obtain ⟨w3,hw3⟩:∃ w3,wz.setCell ⟨g,q,none⟩ (.pointer (some ⟨pr,0,none⟩))=w3:=⟨_,rfl⟩
        rw [hw3] at HO3 HB3 ⊢
        clear hw3 hK hk5 hf5 h63 c3 k0 k3
        refine wpAny_done (by kernel_rfl) ?_ _
        simp only [Exit.inBlock,Exit.then]
        have hA:Below w3.heap.size w3 (w3.alloc (.cells #[.slice (some ⟨g,0,none⟩) N N] 112 (0,0))):=(Below.refl _ _).alloc (Nat.le_refl _) _
        have hB:=Blk.new w3 [.slice (some ⟨g,0,none⟩) N N] 112
        have hP2:=(hP.out.ext HB3.out).ext hA
        obtain ⟨vs,hps1,hps2,hps4,hps3⟩:=hP2.ex
        have hx:VecP w3 (.slice (some ⟨g,0,none⟩) N N) N (jrow (fsF fs) m j):=(HO3.out.vec (Nat.le_refl _) (by unfold maxLen;omega)).vec
        have HO1:=hid hps2;have HC1:=hid hps4;have HBL:=hid hB;have HA:=hid hA;have H3:=hid hps3;have HX:=hid (hx.ext hA)
        have hsz:=HB3.out.size
        clear hP2 hps2 hps3 hps4 hB hA hx HO3
        go_wp2_with (at_builtin;refine wpList_append_all isSl rfl _ _ 101 rfl (w.heap.size+1) 112 i0 (.slice none 0 0) 24 Tryz.underlying101 hi0 hz0 hz1 hz2 rfl ⟨_,_,_,rfl⟩ _ _ _ rfl HO1.out HC1.out ⟨w3.heap.size,0,none⟩ 1 1 [.slice (some ⟨g,0,none⟩) N N] rfl ?qc1 ?qc2 ?qc3 ?qc7 ?qc8 ?qc4 ?qc5 ?qc6 ?_)
        case qc1=>rfl
        case qc2 =>
         intro k u hk
         cases k with
         | zero=>simp at hk;subst hk;exact HBL.out.cell 0 (by simp)
         | succ k=>simp at hk
        case qc3=>intro u hu;simp at hu;subst hu;rfl
        case qc7=>intro u hu;simp at hu;subst hu;exact ⟨_,_,_,rfl⟩
        case qc8=>omega
        case qc4=>unfold maxLen;omega
        case qc5=>omega
        case qc6=>exact Nat.le_trans (by omega:w.heap.size+1≤w3.heap.size) HA.out.size
        intro v' w4 hown' hgrow hoc
        have hb34:Below (w.heap.size+1) w3 w4:=((HA.out.mono (by omega)).grown hgrow (Nat.le_trans (by omega:w.heap.size+1≤w3.heap.size) HA.out.size) (own_block HO1.out))
        have hP3:VRow w4 (w.heap.size+1) v' (j+1) N (jrows (fsF fs) m n):=VRow.push hps1 HC1.out H3.out (by rw [jrows_len];exact hlt) (by rw [jrows_at _ _ _ _ hlt];exact HX.out) hown' hgrow hoc
        have hBl4:=(hBl.out.ext HB3.out).below hb34 (by omega)
        have HP3:=hid hP3;have HBL4:=hid hBl4;have HB4:=hid ((hbe.out.trans (HB3.out.mono hbe.out.size)).trans (hb34.mono (by omega)))
        clear hown' hgrow hoc hP3 hb34 HO1 hBl4 hP hBl hbe HB3
        go_wp2
        go_roundw
        case rel=>exact ⟨j+1,by omega,by go_num,HP3,HBL4,HB4⟩
        case measure=>simp [intOf];omega
  ·obtain rfl:n=j:=by omega
   have hbl:=hBl.out.lt
   obtain ⟨A1,c1,rfl,-,-,hvs⟩:=hP.out.vecsN (jrows_len _ _ _).symm
   have hlat:=lat_calls N 30 (jrows (fsF fs) m n) A1 c1 wo hvs hN0 (by omega) (by rw [jrows_len];omega) (by rw [←HN.out];exact jrow_high) (fun f hf=>jrow_bd (by rw [←HM.out];exact fsF_bd HB30.out) f hf) (by omega) (fun z hz=>wide_21 (by rw [jrows_len];exact tri_six hn) hz)
   rw [jrows_len] at hlat
   have HLAT:=hid hlat
   have k3:=hBl.out.cell 3 (by simp [sysV])
   simp only [sysV,List.getElem_cons_zero,List.getElem_cons_succ] at k3
   clear hvs hlat hP
   go_wp2_with fail
   refine HLAT.out.mono ?_;rintro e w2 ⟨L,M,rc,rfl,hL,hM,hl2,hE,hR,hgen,hcnt,-,hb2⟩
   have hBl2:=hBl.out.ext hb2
   have c1:=hBl2.cell 1 (by simp [sysV])
   have f1:=hBl2.free 1
   simp only [sysV,List.getElem_cons_zero,List.getElem_cons_succ] at c1
   have hbl3:Blk (w2.setCell ⟨w.heap.size,1,none⟩ (.pointer (some ⟨L,0,none⟩))) w.heap.size (sysV n m (some L) none) 192:=hBl2.set 1 _
   have hl3:=hl2.fill (Fill.of hBl2 (k:=1) (by simp [sysV]) (sysV_kind _ _ _ _) (.pointer (some ⟨L,0,none⟩)))
   have hb3:=(hbe.out.trans (hb2.mono hbe.out.size)).setCell (p:=⟨w.heap.size,1,none⟩) (Nat.le_refl _) (.pointer (some ⟨L,0,none⟩))
   have HBL3:=hid hbl3;have HL3:=hid hl3;have HB3:=hid hb3;have HE:=hid hE;have HR:=hid hR;have HGEN:=hid hgen;have HCNT:=hid hcnt
   clear hBl2 hbl3 hl3 hb3 hE hR hgen hcnt hl2 hL hM HLAT hBl hbe hb2 k3
   obtain ⟨w3,hw3⟩:∃ w3,w2.setCell ⟨w.heap.size,1,none⟩ (.pointer (some ⟨L,0,none⟩))=w3:=⟨_,rfl⟩
   rw [hw3] at HBL3 HL3 HB3
   have HW3:=hid hw3
   clear hw3
   go_upto_region 21 with (fail)
   rw [HW3.out]
   clear HW3 c1 f1
   have c1:=HBL3.out.cell 1 (by simp [sysV])
   simp only [sysV,List.getElem_cons_zero,List.getElem_cons_succ,Option.map] at c1
   have HPS:=hid (pivots_calls L M N rc w3 HL3.out (by omega))
   go_wp2_with fail
   refine HPS.out.mono ?_;rintro e w4 ⟨A2,cp,rfl,hcp1,hcp2,hints,hb4⟩
   have HB4:=hid hb4;have HI:=hid hints
   have hlen:(pivI rc N).length=(pivots rc N).length:=pivI_len rc N
   obtain ⟨K,hK⟩:∃ K,(pivI rc N).length=K:=⟨_,rfl⟩
   rw [hK] at hcp1 hlen ⊢
   have HK:=hid hK;have HLEN:=hid hlen
   have hK2:K≤N:=by rw [hlen];exact pivots_le _ _
   clear hb4 hints HPS hK hlen
   go_wp2_with fail
   go_loopw [12,87] (fun tv ti wr=>∃ (k:Nat),k≤K∧ti=.int .i64 k∧Hid (VRow wr w4.heap.size tv (tailsTo rc m n k).length n (tails rc m n))∧Hid (Below w4.heap.size w4 wr)) (fun _ ti _=>K-(intOf ti).toNat)
   case atStart=>exact ⟨0,Nat.zero_le _,rfl,hid ⟨[],by simp [tailsTo],World.ownsRow_nil _ _ _ _,OwnC.nil _ _ _ _,fun j hj=>by simp at hj⟩,hid (Below.refl _ _)⟩
   case round =>
    obtain ⟨k,hk,rfl,hP,hbe⟩:=hrel
    by_cases hlt:k<K
    ·have hk1:(k:Int)<K:=by omega
     have hkk:k<(pivots rc (m+n)).length:=by rw [HN.out,←HLEN.out];exact hlt
     obtain ⟨bA,oA,rfl,hcA⟩:=(HI.out.ext hbe.out) k (by rw [HK.out];exact hlt)
     have hpk:nth (pivI rc N) k=(((pivots rc (m+n))[k]:Nat):Int):=by
      have e:=HN.out
      subst e
      exact pivI_nth hkk
     rw [hpk] at hcA
     have hmem:=Lp.mem_pivots.1 (List.getElem_mem hkk)
     have htl:=tails_at (rc:=rc) (m:=m) (n:=n) hkk
     have hsu:=tailsTo_succ (rc:=rc) (m:=m) (n:=n) hkk
     obtain ⟨p,hp⟩:∃ p,(pivots rc (m+n))[k]=p:=⟨_,rfl⟩
     simp only [hp] at hcA hmem htl hsu
     have hpN:p<N:=by have:=HN.out;omega
     obtain ⟨r,hr⟩:=Option.isSome_iff_exists.1 hmem.2
     rw [hr,Option.getD_some] at htl hsu
     have hbt:=HB4.out.trans (hbe.out.mono HB4.out.size)
     have c1:=(HBL3.out.ext hbt).cell 1 (by simp [sysV])
     have c3:=(HBL3.out.ext hbt).cell 3 (by simp [sysV])
     simp only [sysV,List.getElem_cons_zero,List.getElem_cons_succ,Option.map] at c1 c3
     have hl:=HL3.out.ext hbt
     have l1:=hl.c1
     obtain ⟨F,hM,hF⟩:=hl.map
     have hFp:∃ v,F p=some v∧VecP wr v N r:=by
      rcases hF p hpN with ⟨-,h2⟩|⟨v,x,h1,h2,h3⟩
      ·rw [hr] at h2;cases h2
      ·rw [hr] at h2;injection h2 with h2;subst h2;exact ⟨v,h1,h3⟩
     obtain ⟨v,hFp1,hv⟩:=hFp
     obtain ⟨Ax,cx,rfl,hcx1,hcx2,hcx3⟩:=id hv
     obtain ⟨bx,ox,px,rfl,-,-,-⟩:=hcx3 0 hN0
     have HMP:=hid hM;have HFP:=hid hFp1;have HV:=hid hv;have HTL:=hid htl;have HSU:=hid hsu
     obtain ⟨t,ht⟩:∃ t,(tailsTo rc m n k).length=t:=⟨_,rfl⟩
     have htk:t≤k:=by rw [←ht];exact tailsTo_len _ _ _ _
     rw [ht] at hP
     have HT:=hid ht
     obtain ⟨vs0,-,hq2,-⟩:=hP.out.ex
     obtain ⟨A3,c4,rfl,hc4,hc5⟩:=own_size hq2
     have hnn:=HN.out
     clear hpk hmem htl hsu hp hr hbt hl hM hF hFp1 hv hcx3 hq2 ht
     by_cases hpm:m≤p
     ·have hpm1:decide ((m:Int)≤p)=true:=decide_eq_true (by omega)
      have hte:∃ h:t<(tails rc m n).length,(tails rc m n)[t]=tailV m r:=by
       obtain ⟨h1,h2⟩:=HTL.out hpm
       have e:=HT.out
       subst e
       exact ⟨h1,h2⟩
      have HXV:=hid (HV.out.tail hnn);have HTE:=hid hte
      have hNm:N-m=n:=by omega
      have hcm:cx≠m:=by omega
      have hmN2:(m:Int)≤cx:=by omega
      clear hte
      go_wp2_with fail
      refine wp_region_keys (w0:=wr) 16 [97,98,99,100,101,102,103,104,105,106,107,108,109,110,111,112]
       [leafS 97 (.slice A3 t c4),leafS 98 (.pointer (some ⟨w.heap.size,0,none⟩)),leafS 99 (.pointer (some ⟨w.heap.size,0,none⟩)),leafS 100 (.pointer (some ⟨w.heap.size,1,none⟩)),leafS 101 (.pointer (some ⟨L,0,none⟩)),leafS 102 (.pointer (some ⟨L,0,none⟩)),leafS 103 (.pointer (some ⟨L,1,none⟩)),leafS 104 (.map (some M)),leafS 105 (.int .i64 p),leafS 106 (.slice (some ⟨bx,ox,none⟩) N cx),leafS 107 (.pointer (some ⟨w.heap.size,0,none⟩)),leafS 108 (.pointer (some ⟨w.heap.size,0,none⟩)),leafS 109 (.pointer (some ⟨w.heap.size,3,none⟩)),leafS 110 (.int .i64 m),leafS 111 (.slice (some ⟨bx,ox+m,none⟩) n (cx-m)),leaf1 112 (fun v w=>∃ g,v=.slice (some ⟨g,0,none⟩) 1 1∧wr.heap.size≤g∧Blk w g [.slice (some ⟨bx,ox+m,none⟩) n (cx-m)] 112)]
       [] [none,none,none,none,none,none,none,none,none,none,none,none,none,none,none,none] NoBlk (by kernel_rfl) (by kernel_rfl) (by kernel_rfl) rfl (F:=?cFr26) ?r26c1 ?r26c2 ?r26c3 ?r26c4
      case r26c1 =>
       intro x
       simp only [fullF,Act.put,List.setIfInBounds_toArray,List.set_cons_zero,List.set_cons_succ]
       rfl
      case r26c2 =>
       exact ⟨keeps_const _ _ _ _ _ _ _,keeps_const _ _ _ _ _ _ _,keeps_const _ _ _ _ _ _ _,keeps_const _ _ _ _ _ _ _,keeps_const _ _ _ _ _ _ _,keeps_const _ _ _ _ _ _ _,keeps_const _ _ _ _ _ _ _,keeps_const _ _ _ _ _ _ _,keeps_const _ _ _ _ _ _ _,keeps_const _ _ _ _ _ _ _,keeps_const _ _ _ _ _ _ _,keeps_const _ _ _ _ _ _ _,keeps_const _ _ _ _ _ _ _,keeps_const _ _ _ _ _ _ _,keeps_const _ _ _ _ _ _ _,keeps_calm (isOneV_calm wr.heap.size _) _ _ _ _ _,trivial⟩
      case r26c3 =>
       refine ⟨?_,?_,?_,?_,?_,?_,?_,?_,?_,?_,?_,?_,?_,?_,?_,?_,trivial⟩
       all_goals
        intro xx wq HE hd K hK
        have hc:=(bcell HE).1
        have c1':=(hc _ _ (cell_lt c1)).trans c1
        have c3':=(hc _ _ (cell_lt c3)).trans c3
        have l1':=(hc _ _ (cell_lt l1)).trans l1
        try have e0:xx 97=_:=hd 0 _ (by decide) rfl
        try have e1:xx 98=_:=hd 1 _ (by decide) rfl
        try have e2:xx 99=_:=hd 2 _ (by decide) rfl
        try have e3:xx 100=_:=hd 3 _ (by decide) rfl
        try have e4:xx 101=_:=hd 4 _ (by decide) rfl
        try have e5:xx 102=_:=hd 5 _ (by decide) rfl
        try have e6:xx 103=_:=hd 6 _ (by decide) rfl
        try have e7:xx 104=_:=hd 7 _ (by decide) rfl
        try have e8:xx 105=_:=hd 8 _ (by decide) rfl
        try have e9:xx 106=_:=hd 9 _ (by decide) rfl
        try have e10:xx 107=_:=hd 10 _ (by decide) rfl
        try have e11:xx 108=_:=hd 11 _ (by decide) rfl
        try have e12:xx 109=_:=hd 12 _ (by decide) rfl
        try have e13:xx 110=_:=hd 13 _ (by decide) rfl
        try have e14:xx 111=_:=hd 14 _ (by decide) rfl
        try have g15:=hd 15 _ (by decide) rfl
        have HE:=hid HE
        have HC:=hid hc
        clear hd hc
        have hlk:=(HMP.out.ext HE.out).look p (by omega)
        rw [HFP.out,Option.getD_some] at hlk
        all_goals go_simp
        try (refine hK _ _ _ (mv_const _ rfl) ?_;dsimp only [Act.put];first|done|rfl|(simp [*];done))
       ·exact hK _ _ _ (mv_plain ((Below.refl _ _).alloc (Nat.le_refl _) _) ⟨_,rfl,HE.out.size,Blk.new _ _ _⟩ rfl) (by first|(dsimp only [Act.put];done)|(dsimp only [Act.put];first|rfl|(simp [*];done)|(simp [*,ptr];done)))
      case r26c4 =>
       intro xx wz hE hG hA
       have e0:xx 97=_:=hG 0 _ rfl
       have e1:xx 98=_:=hG 1 _ rfl
       have e2:xx 99=_:=hG 2 _ rfl
       have e3:xx 100=_:=hG 3 _ rfl
       have e4:xx 101=_:=hG 4 _ rfl
       have e5:xx 102=_:=hG 5 _ rfl
       have e6:xx 103=_:=hG 6 _ rfl
       have e7:xx 104=_:=hG 7 _ rfl
       have e8:xx 105=_:=hG 8 _ rfl
       have e9:xx 106=_:=hG 9 _ rfl
       have e10:xx 107=_:=hG 10 _ rfl
       have e11:xx 108=_:=hG 11 _ rfl
       have e12:xx 109=_:=hG 12 _ rfl
       have e13:xx 110=_:=hG 13 _ rfl
       have e14:xx 111=_:=hG 14 _ rfl
       have g15:=hG 15 _ rfl
       obtain ⟨gq,e112,hgq,hgi⟩:=g15
       have HEz:=hid hE
       have hP2:=hP.out.ext hE
       obtain ⟨vs,hps1,hps2,hps4,hps3⟩:=hP2.ex
       have HO1:=hid hps2;have HC1:=hid hps4;have H3:=hid hps3;have HX:=hid (HXV.out.ext hE);have HGI:=hid hgi
       have hsz:=hbe.out.size
       have hsz2:=hE.size
       clear hG hA hE hP2 hps2 hps3 hps4 hgi hP HXV
       refine tail_one (i:=16) (by kernel_rfl) rfl ?_
       intro K hK
       rw [if_pos (by rfl)]
       refine wp_append_all isSl (.tmp 97) (.tmp 112) 101 rfl w4.heap.size 112 i0 (.slice none 0 0) 24 Tryz.underlying101 hi0 hz0 hz1 hz2 rfl ⟨_,_,_,rfl⟩ (.slice A3 t c4) t vs e0 HO1.out HC1.out ⟨gq,0,none⟩ 1 1 [.slice (some ⟨bx,ox+m,none⟩) n (cx-m)] e112 rfl ?_ ?_ ?_ (by omega) (by unfold maxLen;omega) (by omega) (by omega) ?_
       ·intro j y hy
        rcases j with _|j
        ·simp at hy;subst hy;exact HGI.out.cell 0 (by simp)
        ·simp at hy
       ·intro u hu;simp at hu;subst hu;rfl
       ·intro u hu;simp at hu;subst hu;exact ⟨_,_,_,rfl⟩
       intro v' w5 hown' hgrow hoc
       obtain ⟨htl,hte⟩:=HTE.out
       have hb45:Below w4.heap.size wr w5:=((HEz.out.mono hsz).grown hgrow (by omega) (own_block HO1.out))
       have hP3:VRow w5 w4.heap.size v' (t+1) n (tails rc m n):=VRow.push hps1 HC1.out H3.out htl (by rw [hte];exact HX.out) hown' hgrow hoc
       have hsu:=HSU.out
       rw [if_pos hpm] at hsu
       have hlen:(tailsTo rc m n (k+1)).length=t+1:=by rw [hsu,List.length_append,HT.out];rfl
       have HP3:Hid (VRow w5 w4.heap.size v' (tailsTo rc m n (k+1)).length n (tails rc m n)):=hid (by rw [hlen];exact hP3)
       have HB5:=hid (hbe.out.trans hb45)
       clear hown' hgrow hoc hP3 hb45 HO1 hsu hlen hte htl
       refine hK _ _ ?_
       (refine tail_one (i:=17) (by kernel_rfl) rfl ?_;intro K hK;go_simp;refine hK _ _ ?_;clear hK)
       refine wpAny_done (by kernel_rfl) ?_ _
       simp only [Exit.inBlock,Exit.then]
       go_wp2
       go_roundw
       case rel=>exact ⟨k+1,by omega,by go_num,HP3,HB5⟩
       case measure=>simp [intOf];omega
     ·have hpm1:decide ((m:Int)≤p)=false:=decide_eq_false (by omega)
      have hsu:=HSU.out
      rw [if_neg hpm,List.append_nil] at hsu
      have HPN:Hid (VRow wr w4.heap.size (.slice A3 t c4) (tailsTo rc m n (k+1)).length n (tails rc m n)):=hid (by rw [hsu,HT.out];exact hP.out)
      clear hP hsu
      go_wp2
      go_roundw
      case rel=>exact ⟨k+1,by omega,by go_num,HPN,hbe⟩
      case measure=>simp [intOf];omega
    ·obtain rfl:K=k:=by omega
     have hbt:=HB4.out.trans (hbe.out.mono HB4.out.size)
     have hlenT:(tailsTo rc m n K).length=(tails rc m n).length:=by
      have e:=HN.out
      have e2:=HLEN.out
      subst e
      rw [e2,tailsTo_all]
     rw [hlenT] at hP
     have ht6:(tails rc m n).length≤6:=by
      have e:=HN.out
      have e2:=HCNT.out
      rw [←Lp.pivots_len] at e2
      have h3:=tailsTo_len rc m n (pivots rc (m+n)).length
      rw [tailsTo_all] at h3
      subst e
      omega
     obtain ⟨A5,c5,rfl,-,-,hvs⟩:=hP.out.vecsN rfl
     have hEN:Ech (m+n) rc:=by rw [HN.out];exact HE.out
     have hGN:∀ x,Gen (From rc 0) x↔Sat (fsF fs) m n x:=fun x=>(HGEN.out x).trans (gen_joint _ _ _ x)
     have hcntN:(pivots rc (m+n)).length≤n:=by rw [HN.out,Lp.pivots_len];exact HCNT.out
     have hbdF:∀ i,i<m→∀ j,(fsF fs i j).natAbs≤30:=by rw [←HM.out];exact fsF_bd HB30.out
     have hsmall:∀ f∈tails rc m n,∀ i,(f i).natAbs≤3149280000000:=fun f hf i=>by
      obtain ⟨p,r,-,hr,rfl⟩:=(mem_tails hEN).1 hf
      exact small_gen hEN HR.out (by omega) (jrow_bd (n:=n) hbdF) HGEN.out hr (m+i)
     have hlat:=lat_calls n 3149280000000 (tails rc m n) A5 c5 wr hvs h0 (by omega) (by omega) (fun f hf i hi=>by
      obtain ⟨p,r,-,hr,rfl⟩:=(mem_tails hEN).1 hf
      exact hEN.high p r hr (m+i) (by omega)) hsmall (by omega) (fun z hz=>wide_sys (tri_six ht6) hz)
     have HLAT:=hid hlat
     have HBT:=hid hbt
     have hsv:∀ rn,Ech n rn→Lp.Red rn→(∀ x,Gen (From rn 0) x↔Gen (·∈tails rc m n) x)→SysV (fsF fs) m n rc rn:=fun rn h1 h2 h3 =>
      ⟨hbdF,hn,hEN,HR.out,hGN,h1,h2,fun y=>(h3 y).trans (gen_tails hEN hGN y),hcntN⟩
     have HSV:=hid hsv
     clear hvs hlat hP hbe hbt hEN hGN hcntN hbdF hsmall hsv
     go_wp2_with fail
     refine HLAT.out.mono ?_;rintro e w5 ⟨L2,M2,rn,rfl,hL2,hM2,hl5,hE5,hR5,hgen5,-,-,hb5⟩
     have hBl5:=(HBL3.out.ext HBT.out).ext hb5
     have c2:=hBl5.cell 2 (by simp [sysV])
     have f2:=hBl5.free 2
     simp only [sysV,List.getElem_cons_zero,List.getElem_cons_succ] at c2
     have hF:=Fill.of hBl5 (k:=2) (by simp [sysV]) (sysV_kind _ _ _ _) (.pointer (some ⟨L2,0,none⟩))
     have hbl6:Blk (w5.setCell ⟨w.heap.size,2,none⟩ (.pointer (some ⟨L2,0,none⟩))) w.heap.size (sysV n m (some L) (some L2)) 192:=hBl5.set 2 _
     have hl6:=hl5.fill hF
     have hc6:=((HL3.out.ext HBT.out).ext hb5).fill hF
     have hb6:=((HB3.out.trans (HBT.out.mono HB3.out.size)).trans (hb5.mono (HB3.out.trans (HBT.out.mono HB3.out.size)).size)).setCell (p:=⟨w.heap.size,2,none⟩) (Nat.le_refl _) (.pointer (some ⟨L2,0,none⟩))
     have hsys:SysP (w5.setCell ⟨w.heap.size,2,none⟩ (.pointer (some ⟨L2,0,none⟩))) w.heap.size m n rc rn:=⟨L,M,L2,M2,hbl6,by rw [HN.out];exact hc6,hl6⟩
     have HSYS:=hid hsys;have HB6:=hid hb6;have HSV2:=hid (HSV.out rn hE5 hR5 hgen5)
     clear hBl5 hF hbl6 hl6 hc6 hb6 hsys hl5 hE5 hR5 hgen5 hb5 HLAT HBT HSV hL2 hM2
     go_wp2
     go_ret
     exact ⟨w.heap.size,rc,rn,rfl,Nat.le_refl _,HSYS.out,HSV2.out,HB6.out⟩
end
end Go.Proofs.YtkljafmdbajfeaaGreatDoor
