/- Package exact: a lattice in memory; insert. -/
import Derived.Test.YtkljafmdbajfeaaGreatDoorNoH06
import Derived.Test.YtkljafmdbajfeaaGreatDoorNoH21
namespace Go.Proofs.YtkljafmdbajfeaaGreatDoor
set_option linter.unusedVariables false
set_option linter.unusedSimpArgs false
open Go.Lib (hid)
section
open Go.RowKit Go.ChangeMaps
open Lp (Lt V Ech BdV Bd InsAt Ins Meet lv cnt)
theorem MapIs.cells {w:World} {M:Nat} {f:Nat→Option Value} (h:MapIs w M f) (o:Nat):w.cell? ⟨M,o,none⟩=none:=by
 obtain ⟨es,clock,h1,-⟩:=h.ex
 simp [World.cell?,h1]
theorem VecX.butM {X:Nat→Prop} {M:Nat} {F:Nat→Option Value} {w w':World} {v:Value} {n:Nat} {f:Nat→Int} (h:VecX X w v n f) (hM:MapIs w M F) (hb:But M w w'):VecX X w' v n f:=by
 obtain ⟨A,c,h1,h2,h3,h4⟩:=h
 refine ⟨A,c,h1,h2,h3,fun i hi=>?_⟩
 obtain ⟨a,o,p,e,hx,hc,hz⟩:=h4 i hi
 have hne:a≠M:=by rintro rfl;rw [hM.cells] at hc;cases hc
 exact ⟨a,o,p,e,hx,(World.cell?_of_block (a:=⟨a,o+i,none⟩) (hb.block a (cell_lt hc) hne)).trans hc,hz.butP hM.ptrs hb⟩
structure LatP (w:World) (L M n:Nat) (rows:Lt):Prop where
 c0:w.cell? ⟨L,0,none⟩=some (.int .i64 n)
 c1:w.cell? ⟨L,1,none⟩=some (.map (some M))
 map:∃ F,MapIs w M F∧∀ p,p<n→(F p=none∧rows p=none)∨∃ v r,F p=some v∧rows p=some r∧VecP w v n r
theorem LatP.ext {w w':World} {L M n:Nat} {rows:Lt} (h:LatP w L M n rows) (hb:Below w.heap.size w w'):LatP w' L M n rows:=by
 obtain ⟨F,h1,h2⟩:=h.map
 refine ⟨(hb.cell (p:=⟨L,0,none⟩) (cell_lt h.c0)).trans h.c0,(hb.cell (p:=⟨L,1,none⟩) (cell_lt h.c1)).trans h.c1,F,h1.ext hb,fun p hp=>?_⟩
 rcases h2 p hp with h3|⟨v,r,h3,h4,h5⟩
 ·exact .inl h3
 ·exact .inr ⟨v,r,h3,h4,h5.ext hb⟩
theorem LatP.put {w w':World} {L M n p:Nat} {rows:Lt} {F:Nat→Option Value} {v:Value} {r:V} (h:LatP w L M n rows) (hM:MapIs w M F) (hF:∀ p,p<n→(F p=none∧rows p=none)∨∃ v r,F p=some v∧rows p=some r∧VecP w v n r)
 (hv:VecP w v n r) (hb:But M w w') (hM':MapIs w' M (putF F p v)):LatP w' L M n (Lp.put rows p r):=by
 have hne:L≠M:=by rintro rfl;have:=h.c0;rw [hM.cells] at this;cases this
 have hc:∀ o x,w.cell? ⟨L,o,none⟩=some x→w'.cell? ⟨L,o,none⟩=some x:=fun o x e=>(World.cell?_of_block (a:=⟨L,o,none⟩) (hb.block L (cell_lt e) hne)).trans e
 refine ⟨hc _ _ h.c0,hc _ _ h.c1,_,hM',fun q hq=>?_⟩
 by_cases e:q=p
 ·subst e
  exact .inr ⟨v,r,by unfold putF;rw [if_pos rfl],Lp.put_same _ _ _,hv.butM hM hb⟩
 ·rcases hF q hq with ⟨h3,h4⟩|⟨u,s,h3,h4,h5⟩
  ·exact .inl ⟨by unfold putF;rw [if_neg e];exact h3,by rw [Lp.put_other _ _ _ e];exact h4⟩
  ·exact .inr ⟨u,s,by unfold putF;rw [if_neg e];exact h3,by rw [Lp.put_other _ _ _ e];exact h4,h5.butM hM hb⟩
theorem wide_lv {X k:Nat} (hw:∀ z:Int,z.natAbs≤lv X k→Wide z) (hX:0<X) {j:Nat} (hj:j≤k) {z:Int} (hz:z.natAbs≤lv X j):Wide z:=hw z (Nat.le_trans hz (Lp.lv_mono hX hj))
theorem bigZero (w:World):BigP (w.alloc (.cells #[.bool false,.slice none 0 0] 196 (0,0))) w.heap.size 0:=by
 refine BigP.of (v:=.slice none 0 0) (n:=0) (Blk.new w [.bool false,.slice none 0 0] 196) ⟨none,0,?_,?_,?_,?_⟩ rfl
 ·rw [digits_zero];rfl
 ·rw [digits_zero];exact Nat.le_refl _
 ·omega
 ·intro i hi;rw [digits_zero] at hi;simp at hi
def meetC (w2 w14:World) (pm pk M p n:Nat) (vb:Value) (k m:Int) (g1 g2:V) (F:Nat→Option Value):List Value→World→Prop
 | [],w=>w=w14.drew
 | [v1],w=>∃ bb,v1=.slice (some ⟨bb,0,none⟩) n n∧w14.heap.size≤bb∧OwnV w bb n n g1∧NewV w bb n w14.heap.size∧Below w14.heap.size w14 w
 | [v1,u],w=>u=.pointer (some ⟨pm,0,none⟩)∧∃ bb,v1=.slice (some ⟨bb,0,none⟩) n n∧w2.heap.size≤bb∧OwnV w bb n n g1∧BigP w pm (-m)∧BigP w pk k∧Below w2.heap.size w2 w
 | [v1,_,v2],w=>∃ bb cc,v1=.slice (some ⟨bb,0,none⟩) n n∧v2=.slice (some ⟨cc,0,none⟩) n n∧OwnV w bb n n g1∧OwnV w cc n n g2∧Below w2.heap.size w2 w
 | [v1,_,v2,tp],w=>∃ bb cc,∃ st:Nat,v1=.slice (some ⟨bb,0,none⟩) n n∧v2=.slice (some ⟨cc,0,none⟩) n n∧OwnV w bb n n g1∧OwnV w cc n n g2∧Below w2.heap.size w2 w∧tp=.tuple #[vb,.int .i64 st] ∧
    ∀ v,∃ w',(Instr.entryStore 164 (.map (some M)) (.int .i64 st) v).run Tryz.prog w=.ok () w'∧MapIs w' M (putF F p v)∧But M w w'
 | [v1,_,v2,_,sv],w=>∃ bb cc,∃ st:Nat,v1=.slice (some ⟨bb,0,none⟩) n n∧v2=.slice (some ⟨cc,0,none⟩) n n∧OwnV w bb n n g1∧OwnV w cc n n g2∧Below w2.heap.size w2 w∧sv=.int .i64 st ∧
    ∀ v,∃ w',(Instr.entryStore 164 (.map (some M)) (.int .i64 st) v).run Tryz.prog w=.ok () w'∧MapIs w' M (putF F p v)∧But M w w'
 | _,_=>False
theorem meetC_below {w2 w14:World} {pm pk M p n:Nat} {vb:Value} {k m:Int} {g1 g2:V} {F:Nat→Option Value} (hB:Below w2.heap.size w2 w14):∀ {l:List Value} {w:World},meetC w2 w14 pm pk M p n vb k m g1 g2 F l w→Below w2.heap.size w2 w
 | [],w,h=>by unfold meetC at h;rw [h];exact hB.drew
 | [v1],w,h=>by unfold meetC at h;obtain ⟨bb,-,-,-,-,h⟩:=h;exact hB.trans (h.mono hB.size)
 | [v1,u],w,h=>by unfold meetC at h;obtain ⟨-,bb,-,-,-,-,-,h⟩:=h;exact h
 | [v1,_,v2],w,h=>by unfold meetC at h;obtain ⟨bb,cc,-,-,-,-,h⟩:=h;exact h
 | [v1,_,v2,tp],w,h=>by unfold meetC at h;obtain ⟨bb,cc,st,-,-,-,-,h,-⟩:=h;exact h
 | [v1,_,v2,_,sv],w,h=>by unfold meetC at h;obtain ⟨bb,cc,st,-,-,-,-,h,-⟩:=h;exact h
 | _ :: _ :: _ :: _ :: _ :: _ :: _,w,h=>by unfold meetC at h;exact h.elim
set_option maxRecDepth 100000 in
set_option maxHeartbeats 4000000 in
theorem insert_calls (L M n X:Nat) (rows:Lt) (f:V) (v:Value) (w:World) (h:LatP w L M n rows) (hv:VecP w v n f) (hn:n≤1000) (hE:Ech n rows) (hh:∀ i,n≤i→f i=0) (hL:Bd X rows) (hf:BdV X f) (hX:0<X)
 (hw:∀ z:Int,z.natAbs≤lv X (cnt rows n)→Wide z) :
 Calls Tryz.prog 138 #[.pointer (some ⟨L,0,none⟩),v] w fun e w'=>e=.returned (.tuple #[])∧∃ rows',LatP w' L M n rows'∧Ins n X rows f rows'∧But M w w':=by
 have hc0:=h.c0
 have HS:=hid (InsAt.start hE hh hL hf)
 have HL:=hid h
 have HV:=hid hv
 clear hE hh hL hf h hv
 go_enter Tryz.func138,Tryz.ntmps138
 go_wp2
 go_loopw [1,16] (fun tv ti wr=>∃ (p:Nat) (f':V) (rows':Lt),p≤n∧ti=.int .i64 p∧Hid (VecP wr tv n f')∧Hid (LatP wr L M n rows')∧Hid (InsAt n X rows f p rows' f')∧Hid (But M w wr)) (fun _ ti _=>n-(intOf ti).toNat)
 case atStart=>exact ⟨0,f,rows,Nat.zero_le _,rfl,HV,HL,HS,hid (But.refl _ _)⟩
 case round =>
  obtain ⟨p,f',rows',hp,rfl,hv,hl,hI,hbe⟩:=hrel
  by_cases hlt:p<n
  ·have hn1:(p:Int)<n:=by omega
   obtain ⟨A,cv,rfl,hcv,-⟩:=id hv.out
   obtain ⟨b1,o1,p1,rfl,-,q1,hz1⟩:=hv.out.at hlt
   have hsg:=sign_calls p1 (f' p) wr hz1
   by_cases hz:f' p=0
   ·rw [hz,sgnI_eq rfl] at hsg
    have HSG:=hid hsg
    clear hsg hz1
    go_wp2_with fail
    refine HSG.out.mono ?_;rintro e w2 ⟨rfl,e2⟩;subst e2
    go_wp2
    go_roundw
    case rel=>exact ⟨p+1,f',rows',by omega,by go_num,hv,hl,hid (hI.out.skip hX hz),hbe⟩
    case measure=>simp [intOf];omega
   ·have hb0:(sgnI (f' p) 0 == 0)=false:=by unfold sgnI;split<;>(try split)<;>first|rfl|omega
    have hb1:decide (sgnI (f' p) 0<0)=decide (f' p<0):=by
     unfold sgnI
     split
     ·rename_i h;rw [decide_eq_true h];rfl
     ·rename_i h;rw [decide_eq_false h];split<;>rfl
    have HB0:=hid hb0;have HB1:=hid hb1
    have HSG:=hid hsg
    have hc1:=hl.out.c1
    obtain ⟨F,hM,hF⟩:=hl.out.map
    have hlook:=hM.look_ok p (by omega)
    have HM:=hid hM;have HF:=hid hF
    have HZ1:=hid hz1
    have hlevL:=hI.out.bdL
    have hlevf:=hI.out.bdf
    have hcn:cnt rows p≤cnt rows n:=Lp.cnt_mono _ hp
    generalize hsv:sgnI (f' p) 0=sg at *
    have hsvk:=hsv
    rcases hF p hlt with ⟨hFp,hrp⟩|⟨vb,r,hFp,hrp,hvb⟩
    ·rw [hFp,Option.getD_none,Option.isSome_none] at hlook
     clear hF hM hsg hz1 hb1 hsv hsvk
     have HRP:=hid hrp;clear hrp hFp
     go_wp2_with fail
     refine HSG.out.mono ?_;rintro e w2 ⟨rfl,e2⟩;subst e2
     go_wp2_with fail
     refine HSG.out.mono ?_;rintro e w2 ⟨rfl,e2⟩;subst e2
     by_cases hneg:f' p<0
     ·have hb1:decide (sg<0)=true:=by rw [HB1.out,decide_eq_true hneg]
      clear hlook
      go_wp2_with fail
      refine (newInt_calls (-1) w2 (by omega) (by omega)).mono ?_;rintro e w3 ⟨pn,rfl,hpn,hn3,hb3⟩
      have hA4:Below w3.heap.size w3 (w3.alloc (.cells #[.bool false,.slice none 0 0] 196 (0,0))):=(Below.refl _ _).alloc (Nat.le_refl _) _
      have hz4:=bigZero w3
      have hv4:=(hv.out.ext hb3).ext hA4
      have w1':∀ i,i<n→Wide (f' i):=fun i _=>wide_lv hw hX hcn (hlevf i)
      have w2':∀ i,i<n→Wide (-1*f' i):=fun i _=>wide_lv hw hX hcn (by rw [Int.neg_mul,Int.one_mul,Int.natAbs_neg];exact hlevf i)
      have w3':∀ i,i<n→Wide (0*f' i):=fun i _=>by rw [Int.zero_mul];exact wide_small (by decide)
      have hmx:=mix_calls pn w3.heap.size n f' f' (-1) 0 _ _ _ (hn3.ext hA4) hz4 hv4 hv4 hn (wide_small (by decide)) (wide_small (by decide)) w1' w1' w2' w3'
      have HMX:=hid hmx
      have HB4:=hid (hb3.trans (hA4.mono hb3.size))
      clear hn3 hb3 hA4 hz4 hv4 w1' w2' w3' hmx hpn
      go_wp2_with fail
      refine HMX.out.mono ?_;rintro e w5 ⟨bm,rfl,hbm,hO5,hb5,-⟩
      have hb25:Below w2.heap.size w2 w5:=HB4.out.trans (hb5.mono HB4.out.size)
      have hl5:=hl.out.ext hb25
      have hc5:=hl5.c1
      have HL5:=hid hl5;have HO5:=hid hO5;have HB25:=hid hb25
      obtain ⟨F5,hM5,hF5⟩:=hl5.map
      have HM5:=hid hM5;have HF5:=hid hF5
      obtain ⟨w6,hu1,hu2,hu3⟩:=hM5.update p (by omega) (.slice (some ⟨bm,0,none⟩) n n)
      have HU2:=hid hu2;have HU3:=hid hu3
      clear hu2 hu3 hM5 hF5 hl5 hb25 hO5 hb5 hbm HMX
      go_wp2
      refine bodyPost_ret (results_none rfl _ _ _) rfl ?_
      have hvm:VecP w5 (.slice (some ⟨bm,0,none⟩) n n) n (fun i => -1*f' i):=((HO5.out.vec (Nat.le_refl _) (by unfold maxLen;omega)).vec).congr fun i _=>by simp
      have hL6:=HL5.out.put HM5.out HF5.out hvm HU3.out HU2.out
      have hi6:=hI.out.take hX hlt HRP.out (-1) (.inr rfl) (by omega)
      exact ⟨rfl,_,hL6,hi6,(hbe.out.ext HB25.out).trans HU3.out⟩
     ·have hb1:decide (sg<0)=false:=by rw [HB1.out,decide_eq_false hneg]
      have hup:=HM.out.update p (by omega) (.slice (some ⟨b1,o1,none⟩) n cv)
      obtain ⟨w3,hu1,hu2,hu3⟩:=hup
      have HU2:=hid hu2;have HU3:=hid hu3
      clear hu2 hu3
      go_wp2
      refine bodyPost_ret (results_none rfl _ _ _) rfl ?_
      have hL3:=hl.out.put HM.out HF.out hv.out HU3.out HU2.out
      have hi3:=hI.out.take hX hlt HRP.out 1 (.inl rfl) (by omega)
      rw [show (fun i=>1*f' i)=f' from funext fun i=>by omega] at hi3
      exact ⟨rfl,_,hL3,hi3,hbe.out.trans HU3.out⟩
    ·rw [hFp,Option.getD_some,Option.isSome_some] at hlook
     clear hF hM hsg hz1 hb1 hsv
     have HFP:=hid hFp;have HRP:=hid hrp
     have HSV:=hid hsvk
     obtain ⟨A2,c2,rfl,hc2,-⟩:=id hvb
     obtain ⟨b2,o2,p2,rfl,-,q2,hz2⟩:=hvb.at hlt
     have hrpos:=hI.out.ech.pos p r hrp
     have HVB:=hid hvb;have HZ2:=hid hz2
     have hbr:BdV (lv X (cnt rows p)) r:=hlevL p r hrp
     have hcn1:cnt rows p+1≤cnt rows n:=by
      have h1:cnt rows (p+1)=cnt rows p+1:=by simp only [cnt];rw [←hI.out.same p,hrp];rfl
      have h2:cnt rows (p+1)≤cnt rows n:=Lp.cnt_mono _ (by omega)
      omega
     have hX1:0<lv X (cnt rows p):=Lp.lv_pos hX _
     clear hFp hrp hvb hz2 hlevL hsvk
     go_wp2_with fail
     refine HSG.out.mono ?_;rintro e w2 ⟨rfl,e2⟩;subst e2
     go_wp2_with fail
     obtain ⟨w9,h9⟩:∃ w9,Hid ((w2.alloc (.cells #[.bool false,.slice none 0 0] 196 (0,0))).alloc (.cells #[.bool false,.slice none 0 0] 196 (0,0))=w9):=⟨_,hid rfl⟩
     rw [h9.out]
     have hB9:Below w2.heap.size w2 w9:=by rw [←h9.out];exact ((Below.refl _ _).alloc (Nat.le_refl _) _).alloc (by simp) _
     have hs9:w9.heap.size=w2.heap.size+2:=by rw [←h9.out];simp
     have hS9:BigP w9 w2.heap.size 0:=by rw [←h9.out];exact (bigZero w2).ext ((Below.refl _ _).alloc (Nat.le_refl _) _)
     have hT9:BigP w9 (w2.heap.size+1) 0:=by
      rw [←h9.out]
      have:=bigZero (w2.alloc (.cells #[.bool false,.slice none 0 0] 196 (0,0)))
      rw [show (w2.alloc (.cells #[.bool false,.slice none 0 0] 196 (0,0))).heap.size=w2.heap.size+1 by simp] at this
      exact this
     have k1:w9.cell? ⟨b1,o1+p,none⟩=some (.pointer (some ⟨p1,0,none⟩)):=((bcell hB9).1 _ _ (cell_lt q1)).trans q1
     have k2:w9.cell? ⟨b2,o2+p,none⟩=some (.pointer (some ⟨p2,0,none⟩)):=((bcell hB9).1 _ _ (cell_lt q2)).trans q2
     have z1:=HZ1.out.ext hB9
     have z2:=HZ2.out.ext hB9
     have l1:=HZ1.out.lt
     have l2:=HZ2.out.lt
     have Z1:=hid z1;have Z2:=hid z2;have IS:=hid hS9.blk;have IT:=hid hT9.blk;have B9:=hid hB9
     have S9:=hid hs9
     clear z1 z2 hS9 hT9 hB9 hs9 hlook
     refine wp_region_kc (w0:=w9) 13 [55,56,57,58,59,60,61,62,63,64,65,66,67]
      [.l none (leafA IntBlk · w9.heap.size),.c (.pointer (some ⟨w2.heap.size,0,none⟩)),.c (.pointer (some ⟨(w2.heap.size+1),0,none⟩)),.c (.slice (some ⟨b2,o2,none⟩) n c2),.c (.int .i64 p),.c (.pointer (some ⟨b2,o2+p,none⟩)),.c (.pointer (some ⟨p2,0,none⟩)),.l none (leafA IntBlk · w9.heap.size),.c (.slice (some ⟨b1,o1,none⟩) n cv),.c (.int .i64 p),.c (.pointer (some ⟨b1,o1+p,none⟩)),.c (.pointer (some ⟨p1,0,none⟩)),.l (some 62) (leafR 62 · (fun q w=>BigP w q ((f' p).natAbs:Int)) w9.heap.size)]
      [55,62] IntBlk (by kernel_rfl) (by kernel_rfl) (by kernel_rfl) rfl (F:=?cFr10) ?r10c1 ?r10c2 ?r10c3 ?r10c4
     case r10c1 =>
      intro x
      simp only [fullC,Act.put,List.setIfInBounds_toArray,List.set_cons_zero,List.set_cons_succ]
      rfl
     case r10c2 =>
      exact ⟨keeps_alloc intBlk_ext intBlk_other _ _ _ _ _,keeps_alloc intBlk_ext intBlk_other _ _ _ _ _,keeps_res (calm_big _) _ _ _ _ _ rfl (by decide),trivial⟩
     case r10c3 =>
      refine ⟨?_,?_,?_,?_,?_,?_,?_,?_,?_,?_,?_,?_,?_,trivial⟩
      all_goals
       intro xx wq HE hd K hK
       have hc:=(bcell HE).1
       have k1':=(hc _ _ (cell_lt k1)).trans k1
       have k2':=(hc _ _ (cell_lt k2)).trans k2
       try have g0:=hd 0 _ (by decide) rfl
       try have g7:=hd 7 _ (by decide) rfl
       try have g12:=hd 12 _ (by decide) rfl
       have HE:=hid HE
       have HC:=hid hc
       clear hd hc
       all_goals go_simp
       try (refine hK _ _ _ (mv_const _ rfl) ?_;dsimp only [Act.put];first|done|rfl|(simp [*];done))
      ·refine hK _ _ _ (mv_alloc _ HE.out.size (IntBlk.new _)) ?_
       dsimp only [Act.put]
       first|rfl|(simp [*];done)|(simp [*,ptr];done)
      ·refine hK _ _ _ (mv_alloc _ HE.out.size (IntBlk.new _)) ?_
       dsimp only [Act.put]
       first|rfl|(simp [*];done)|(simp [*,ptr];done)
      ·obtain ⟨q,h9',hk1,hk2⟩:=g7
       rw [h9']
       refine (abs_calls q p1 (f' p) wq hk2 (Z1.out.ext HE.out)).mono ?_
       rintro e w3 ⟨rfl,hz3,hb3⟩
       exact hK _ _ _ (mv_set h9' hk1 hk2 hz3.blk hb3 hz3 (by decide) rfl) (by first|(dsimp only [Act.put];done)|(dsimp only [Act.put];first|rfl|(simp [*];done)|(simp [*,ptr];done)))
     case r10c4 =>
      intro xx wz hE hG hA
      have g0:=hG 0 _ rfl
      have e1:xx 56=_:=hG 1 _ rfl
      have e2:xx 57=_:=hG 2 _ rfl
      have e3:xx 58=_:=hG 3 _ rfl
      have e4:xx 59=_:=hG 4 _ rfl
      have e5:xx 60=_:=hG 5 _ rfl
      have e6:xx 61=_:=hG 6 _ rfl
      have g7:=hG 7 _ rfl
      have e8:xx 63=_:=hG 8 _ rfl
      have e10:xx 65=_:=hG 10 _ rfl
      have e11:xx 66=_:=hG 11 _ rfl
      have g12:=hG 12 _ rfl
      obtain ⟨pg,h55,hg1,hg2⟩:=g0
      obtain ⟨qa,-,h67,ha1,ha2⟩:=g12
      simp only [ptr] at h55 h67
      have hs9:=S9.out
      have hnat:0<((f' p).natAbs:Int):=by omega
      have hwa:Wide (r p):=wide_lv hw hX hcn (hbr p)
      have hwf:Wide ((f' p).natAbs:Int):=wide_lv hw hX hcn (by have:=hlevf p;omega)
      have hwab:Wide (r p*((f' p).natAbs:Int)+((f' p).natAbs:Int)):=wide_lv hw hX hcn1 (by
       have h1:=Lp.mul_abs (hbr p) (by have:=hlevf p;omega:((f' p).natAbs:Int).natAbs≤lv X (cnt rows p))
       have h2:=hlevf p
       have h3:lv X (cnt rows p)*1≤lv X (cnt rows p)*lv X (cnt rows p):=Nat.mul_le_mul_left _ hX1
       simp only [lv];omega)
      have hgc:=gcd_calls pg w2.heap.size (w2.heap.size+1) p2 qa (r p) ((f' p).natAbs:Int) wz hg2 (IS.out.ext hE) (IT.out.ext hE) (by omega) (by omega) (by omega) (by omega) (by omega) (Z2.out.ext hE) ha2 hrpos hnat hwa hwf hwab
      have HGC:=hid hgc
      have hB9z:Below w2.heap.size w2 wz:=B9.out.trans (hE.mono B9.out.size)
      have B9z:=hid hB9z
      have hzs:=hE.size
      clear hA hG hE g7 hgc hB9z hwa hwf hwab hnat ha2
      refine tail_one (i:=13) (by kernel_rfl) rfl ?_
      intro K hK
      go_simp
      refine HGC.out.mono ?_
      rintro e w10 ⟨s,t0,rfl,hgG,hgS,hgT,hsum,hsb,htb,hBB⟩
      refine hK _ _ ?_
      clear hK HGC
      have hm:=Meet.of hrpos hz hsum hsb htb
      have hB10:Below w2.heap.size w2 w10:=B9z.out.trans (hBB w2.heap.size (by omega) (Nat.le_refl _) (by omega) (by omega))
      have HM10:=hid hm;have HB10:=hid hB10;have GG:=hid hgG;have GS:=hid hgS;have GT:=hid hgT
      generalize hgv:(Int.gcd (r p) ((f' p).natAbs:Int):Int)=g at *
      clear hm hB10 hgG hgS hgT hBB hsum hsb htb hgv
      (refine tail_one (i:=14) (by kernel_rfl) rfl ?_;intro K hK;go_simp;refine hK _ _ ?_;clear hK)
      refine wpAny_done (by kernel_rfl) ?_ _
      have m1:w10.cell? ⟨b1,o1+p,none⟩=some (.pointer (some ⟨p1,0,none⟩)):=((bcell HB10.out).1 _ _ (cell_lt q1)).trans q1
      have m2:w10.cell? ⟨b2,o2+p,none⟩=some (.pointer (some ⟨p2,0,none⟩)):=((bcell HB10.out).1 _ _ (cell_lt q2)).trans q2
      have hsg2:=sign_calls p1 (f' p) w10 (HZ1.out.ext HB10.out)
      rw [HSV.out] at hsg2
      have HSG2:=hid hsg2
      clear hsg2
      go_wp2_with fail
      refine HSG2.out.mono ?_;rintro e w11 ⟨rfl,e11⟩;subst e11
      by_cases hneg:f' p<0
      case' pos =>
       have hb1:decide (sg<0)=true:=by rw [HB1.out,decide_eq_true hneg]
       have hng:=neg_t (w2.heap.size+1) (w2.heap.size+1) t0 w11 GT.out.blk GT.out
       have HNG:=hid hng
       clear hng
       go_wp2_with fail
       refine HNG.out.mono ?_;rintro e w12 ⟨rfl,hT12,hb12,-⟩
       have hg12:=GG.out.but GT.out.blk hb12 (by omega)
       have hs12:=GS.out.but GT.out.blk hb12 (by omega)
       have hB12:Below w2.heap.size w2 w12:=HB10.out.trans (hb12.below (by omega) HB10.out.size)
       have n1:w12.cell? ⟨b1,o1+p,none⟩=some (.pointer (some ⟨p1,0,none⟩)):=((bcell hB12).1 _ _ (cell_lt q1)).trans q1
       have n2:w12.cell? ⟨b2,o2+p,none⟩=some (.pointer (some ⟨p2,0,none⟩)):=((bcell hB12).1 _ _ (cell_lt q2)).trans q2
       have G12:=hid hg12;have S12:=hid hs12;have T12:=hid hT12;have B12:=hid hB12
       have hmt:=HM10.out
       rw [if_pos hneg] at hmt
       have HMT:=hid hmt
       clear hg12 hs12 hT12 hB12 hb12 hmt HNG
       generalize htv : -t0=t at *
       go_wp2_with fail
      case' neg =>
       have hb1:decide (sg<0)=false:=by rw [HB1.out,decide_eq_false hneg]
       have G12:=GG;have S12:=GS;have T12:=GT;have B12:=HB10;have n1:=m1;have n2:=m2
       have hmt:=HM10.out
       rw [if_neg hneg] at hmt
       have HMT:=hid hmt
       clear hmt
       generalize htv:t0=t at *
       obtain ⟨w12,hwv⟩:∃ w12,w12=w11:=⟨_,rfl⟩
       rw [←hwv] at G12 S12 T12 B12 n1 n2 ⊢
       clear hwv
       go_wp2_with fail
      ·have hmt:=HMT.out
       have hg0:g≠0:=by have:=hmt.pos;omega
       have hgb:=hmt.gs (by omega)
       have hwr:Wide (r p):=wide_lv hw hX hcn (hbr p)
       have hwf:Wide (f' p):=wide_lv hw hX hcn (hlevf p)
       have hwg:Wide g:=wide_lv hw hX hcn (by have:=hbr p;omega)
       have Y1:=hid (HZ1.out.ext B12.out)
       have Y2:=hid (HZ2.out.ext B12.out)
       clear hgb hmt
       refine wp_region_kc (w0:=w12) 14 [78,79,80,81,82,83,84,85,86,87,88,89,90,91]
        [.l none (leafA IntBlk · w12.heap.size),.c (.slice (some ⟨b2,o2,none⟩) n c2),.c (.int .i64 p),.c (.pointer (some ⟨b2,o2+p,none⟩)),.c (.pointer (some ⟨p2,0,none⟩)),.c (.pointer (some ⟨pg,0,none⟩)),.l (some 78) (leafR 78 · (fun q w=>BigP w q ((r p).tdiv g)) w12.heap.size),.l none (leafA IntBlk · w12.heap.size),.c (.slice (some ⟨b1,o1,none⟩) n cv),.c (.int .i64 p),.c (.pointer (some ⟨b1,o1+p,none⟩)),.c (.pointer (some ⟨p1,0,none⟩)),.c (.pointer (some ⟨pg,0,none⟩)),.l (some 85) (leafR 85 · (fun q w=>BigP w q ((f' p).tdiv g)) w12.heap.size)]
        [78,85] IntBlk (by kernel_rfl) (by kernel_rfl) (by kernel_rfl) rfl (F:=?cFr13a) ?r13ac1 ?r13ac2 ?r13ac3 ?r13ac4
       case r13ac1 =>
        intro x
        simp only [fullC,Act.put,List.setIfInBounds_toArray,List.set_cons_zero,List.set_cons_succ]
        rfl
       case r13ac2 =>
        exact ⟨keeps_alloc intBlk_ext intBlk_other _ _ _ _ _,keeps_res (calm_big _) _ _ _ _ _ rfl (by decide),keeps_alloc intBlk_ext intBlk_other _ _ _ _ _,keeps_res (calm_big _) _ _ _ _ _ rfl (by decide),trivial⟩
       case r13ac3 =>
        refine ⟨?_,?_,?_,?_,?_,?_,?_,?_,?_,?_,?_,?_,?_,?_,trivial⟩
        all_goals
         intro xx wq HE hd K hK
         have hc:=(bcell HE).1
         have n1':=(hc _ _ (cell_lt n1)).trans n1
         have n2':=(hc _ _ (cell_lt n2)).trans n2
         try have g0:=hd 0 _ (by decide) rfl
         try have g6:=hd 6 _ (by decide) rfl
         try have g7:=hd 7 _ (by decide) rfl
         try have g13:=hd 13 _ (by decide) rfl
         have HE:=hid HE
         have HC:=hid hc
         clear hd hc
         all_goals go_simp
         try (refine hK _ _ _ (mv_const _ rfl) ?_;dsimp only [Act.put];first|done|rfl|(simp [*];done))
        ·refine hK _ _ _ (mv_alloc _ HE.out.size (IntBlk.new _)) ?_
         dsimp only [Act.put]
         first|rfl|(simp [*];done)|(simp [*,ptr];done)
        ·obtain ⟨q,h9',hk1,hk2⟩:=g0
         rw [h9']
         refine (quo_calls q p2 pg (r p) g wq hk2 (Y2.out.ext HE.out) (G12.out.ext HE.out) hg0 hwr hwg).mono ?_
         rintro e w3 ⟨rfl,hz3,hb3⟩
         exact hK _ _ _ (mv_set h9' hk1 hk2 hz3.blk hb3 hz3 (by decide) rfl) (by first|(dsimp only [Act.put];done)|(dsimp only [Act.put];first|rfl|(simp [*];done)|(simp [*,ptr];done)))
        ·refine hK _ _ _ (mv_alloc _ HE.out.size (IntBlk.new _)) ?_
         dsimp only [Act.put]
         first|rfl|(simp [*];done)|(simp [*,ptr];done)
        ·obtain ⟨q,h9',hk1,hk2⟩:=g7
         rw [h9']
         refine (quo_calls q p1 pg (f' p) g wq hk2 (Y1.out.ext HE.out) (G12.out.ext HE.out) hg0 hwf hwg).mono ?_
         rintro e w3 ⟨rfl,hz3,hb3⟩
         exact hK _ _ _ (mv_set h9' hk1 hk2 hz3.blk hb3 hz3 (by decide) rfl) (by first|(dsimp only [Act.put];done)|(dsimp only [Act.put];first|rfl|(simp [*];done)|(simp [*,ptr];done)))
       case r13ac4 =>
        intro xx wz hE hG hA
        have g0:=hG 0 _ rfl
        have e1:xx 79=_:=hG 1 _ rfl
        have e2:xx 80=_:=hG 2 _ rfl
        have e3:xx 81=_:=hG 3 _ rfl
        have e4:xx 82=_:=hG 4 _ rfl
        have e5:xx 83=_:=hG 5 _ rfl
        have g6:=hG 6 _ rfl
        have g7:=hG 7 _ rfl
        have e8:xx 86=_:=hG 8 _ rfl
        have e10:xx 88=_:=hG 10 _ rfl
        have e11:xx 89=_:=hG 11 _ rfl
        have e12:xx 90=_:=hG 12 _ rfl
        have g13:=hG 13 _ rfl
        obtain ⟨pk,h78,h84,hk1,hk2⟩:=g6
        obtain ⟨pm,h85,h91,hm1,hm2⟩:=g13
        have hkm:pk≠pm:=by
         have:=hA 78 85 (by decide) (by decide) (by decide) (by decide) (by decide)
         rintro rfl;exact this (h78.trans h85.symm)
        simp only [ptr] at h84 h91
        have KK:=hid hk2;have MM:=hid hm2
        have S14:=hid (S12.out.ext hE);have T14:=hid (T12.out.ext hE)
        have hB14:Below w2.heap.size w2 wz:=B12.out.trans (hE.mono B12.out.size)
        have B14:=hid hB14
        have hz12:=B12.out.size
        have hz14:=hB14.size
        clear hA hG hE hk2 hm2 g0 g7 hB14
        (refine tail_one (i:=14) (by kernel_rfl) rfl ?_;intro K hK;go_simp;refine hK _ _ ?_;clear hK)
        (refine tail_one (i:=15) (by kernel_rfl) rfl ?_;intro K hK;go_simp;refine hK _ _ ?_;clear hK)
        refine wpAny_done (by kernel_rfl) ?_ _
        go_wp2_with fail
        have hmt:=HMT.out
        have hbd:=fun i=>hmt.bound (hbr p) (hlevf p) hX1 (hbr i) (hlevf i)
        have hlv:∀ z:Int,z.natAbs≤3*(lv X (cnt rows p)*lv X (cnt rows p))→Wide z:=fun z hz=>wide_lv hw hX hcn1 (by simp only [lv];exact hz)
        have hlvs:lv X (cnt rows p)≤3*(lv X (cnt rows p)*lv X (cnt rows p)):=Lp.lv_step hX (cnt rows p)
        have ws:Wide s:=hlv _ (by have:=hmt.ss;have:=hlevf p;omega)
        have wt:Wide t:=hlv _ (by have:=hmt.ts;have:=hbr p;have:lv X (cnt rows p)*1≤lv X (cnt rows p)*lv X (cnt rows p):=Nat.mul_le_mul_left _ hX1;omega)
        have wk:Wide ((r p).tdiv g):=hlv _ (by have:=hmt.ks;have:=hbr p;omega)
        have wm:Wide (-(f' p).tdiv g):=hlv _ (by have:=hmt.ms;have:=hlevf p;omega)
        have wr1:∀ i,i<n→Wide (r i):=fun i _=>hlv _ (Nat.le_trans (hbr i) hlvs)
        have wf1:∀ i,i<n→Wide (f' i):=fun i _=>hlv _ (Nat.le_trans (hlevf i) hlvs)
        have hc14:wz.cell? ⟨L,1,none⟩=some (.map (some M)):=(hl.out.ext B14.out).c1
        have HBD:=hid hbd;have HLV:=hid hlv
        clear hmt hbd hlv hlvs
        refine wp_region_chain (w0:=wz) 19 [92,93,94,95,96,97,98,99,100,101,102,103,104,105,106,107,108,109,110]
         [some (.pointer (some ⟨L,0,none⟩)),some (.pointer (some ⟨L,0,none⟩)),some (.pointer (some ⟨L,1,none⟩)),some (.map (some M)),some (.int .i64 p),some (.pointer (some ⟨w2.heap.size,0,none⟩)),some (.slice (some ⟨b2,o2,none⟩) n c2),some (.pointer (some ⟨(w2.heap.size+1),0,none⟩)),some (.slice (some ⟨b1,o1,none⟩) n cv),none,some (.pointer (some ⟨pk,0,none⟩)),some (.slice (some ⟨b1,o1,none⟩) n cv),some (.pointer (some ⟨pm,0,none⟩)),some (.pointer (some ⟨pm,0,none⟩)),none,some (.slice (some ⟨b2,o2,none⟩) n c2),none,none,none]
         [9,14,16,17,18] (meetC w2 wz pm pk M p n (.slice (some ⟨b2,o2,none⟩) n c2) ((r p).tdiv g) ((f' p).tdiv g) (fun i=>s*r i+t*f' i) (fun i=>(r p).tdiv g*f' i + -(f' p).tdiv g*r i) F) (by kernel_rfl) (by kernel_rfl) (by kernel_rfl) (F:=?cFr14a) ?r14ac1 (rfl) ?r14ac3 ?r14ac4
        case r14ac1 =>
         intro x
         simp only [fullF,Act.put,List.setIfInBounds_toArray,List.set_cons_zero,List.set_cons_succ]
         rfl
        case r14ac3 =>
         refine ⟨?_,?_,?_,?_,?_,?_,?_,?_,?_,?_,?_,?_,?_,?_,?_,?_,?_,?_,?_,trivial⟩
         all_goals
          intro xx wq kk hkk hC hcon hlk K hK
          have hc:=(bcell (meetC_below B14.out hC)).1
          have hc1':=(hc _ _ (cell_lt hc1)).trans hc1
          try have e0:xx 92=_:=hcon 0 _ (by decide) rfl
          try have e1:xx 93=_:=hcon 1 _ (by decide) rfl
          try have e2:xx 94=_:=hcon 2 _ (by decide) rfl
          try have e3:xx 95=_:=hcon 3 _ (by decide) rfl
          try have e4:xx 96=_:=hcon 4 _ (by decide) rfl
          try have e5:xx 97=_:=hcon 5 _ (by decide) rfl
          try have e6:xx 98=_:=hcon 6 _ (by decide) rfl
          try have e7:xx 99=_:=hcon 7 _ (by decide) rfl
          try have e8:xx 100=_:=hcon 8 _ (by decide) rfl
          try have e10:xx 102=_:=hcon 10 _ (by decide) rfl
          try have e11:xx 103=_:=hcon 11 _ (by decide) rfl
          try have e12:xx 104=_:=hcon 12 _ (by decide) rfl
          try have e13:xx 105=_:=hcon 13 _ (by decide) rfl
          try have e15:xx 107=_:=hcon 15 _ (by decide) rfl
          have HCC:=hid hc
          clear hcon hc
          have HC:=hid hC
          clear hC
          have HL:=hid hlk
          clear hlk
          go_simp
          try (refine hK _ _ _ ⟨rfl,rfl⟩ ?_;dsimp only [Act.put];first|done|rfl|(simp [*];done))
         ·obtain rfl:=HL.out 0 rfl
          have hC:(meetC w2 wz pm pk M p n (.slice (some ⟨b2,o2,none⟩) n c2) ((r p).tdiv g) ((f' p).tdiv g) (fun i=>s*r i+t*f' i) (fun i=>(r p).tdiv g*f' i + -(f' p).tdiv g*r i) F) [] wq:=HC.out
          have hwq:wq=wz.drew:=hC
          subst hwq
          refine (mix_calls w2.heap.size (w2.heap.size+1) n r f' s t (.slice (some ⟨b2,o2,none⟩) n c2) (.slice (some ⟨b1,o1,none⟩) n cv) wz.drew (S14.out.ext (drewN_below wz 1)) (T14.out.ext (drewN_below wz 1)) ((HVB.out.ext B14.out).ext (drewN_below wz 1)) ((hv.out.ext B14.out).ext (drewN_below wz 1)) hn ws wt wr1 wf1 (fun i _=>HLV.out _ (HBD.out i).1) (fun i _=>HLV.out _ (HBD.out i).2.1)).mono ?_
          rintro e w3 ⟨bb,rfl,hbb,hO3,hb3,hn3⟩
          exact hK _ _ _ ⟨bb,rfl,hbb,hO3,hn3,ext_trans (drewN_below wz 1) hb3⟩ (by first|(dsimp only [Act.put];done)|(dsimp only [Act.put];first|rfl|(simp [*];done)|(simp [*,ptr];done)))
         ·obtain rfl:=HL.out 1 rfl
          have hC:(meetC w2 wz pm pk M p n (.slice (some ⟨b2,o2,none⟩) n c2) ((r p).tdiv g) ((f' p).tdiv g) (fun i=>s*r i+t*f' i) (fun i=>(r p).tdiv g*f' i + -(f' p).tdiv g*r i) F) [xx 101] wq:=HC.out
          obtain ⟨bb,h101,hbb,hO,hN,hBq⟩:=hC
          have hmq:=MM.out.ext hBq
          refine (neg_t pm pm ((f' p).tdiv g) wq hmq.blk hmq).mono ?_
          rintro e w3 ⟨rfl,hz3,hb3,-⟩
          have hB2q:Below w2.heap.size w2 wq:=B14.out.trans (hBq.mono B14.out.size)
          exact hK _ _ _ ⟨rfl,bb,h101,by have:=B14.out.size;omega,hO.but hmq.blk hb3 (fun i hi e=>by have:=hN i hi _ e;have:=MM.out.lt;omega),hz3,(KK.out.ext hBq).but hmq.blk hb3 hkm,hB2q.trans (hb3.below (by omega) hB2q.size)⟩ (by first|(dsimp only [Act.put];done)|(dsimp only [Act.put];first|rfl|(simp [*];done)|(simp [*,ptr];done)))
         ·obtain rfl:=HL.out 2 rfl
          have hC:(meetC w2 wz pm pk M p n (.slice (some ⟨b2,o2,none⟩) n c2) ((r p).tdiv g) ((f' p).tdiv g) (fun i=>s*r i+t*f' i) (fun i=>(r p).tdiv g*f' i + -(f' p).tdiv g*r i) F) [xx 101,xx 106] wq:=HC.out
          obtain ⟨h106,bb,h101,hbb,hO,hm3,hk3,hBq⟩:=hC
          rw [h106]
          refine (mix_calls pk pm n f' r ((r p).tdiv g) (-(f' p).tdiv g) (.slice (some ⟨b1,o1,none⟩) n cv) (.slice (some ⟨b2,o2,none⟩) n c2) wq hk3 hm3 (hv.out.ext hBq) (HVB.out.ext hBq) hn wk wm wf1 wr1 (fun i _=>HLV.out _ (HBD.out i).2.2.2.1) (fun i _=>HLV.out _ (HBD.out i).2.2.2.2.1)).mono ?_
          rintro e w3 ⟨cc,rfl,hcc,hO3,hb3,-⟩
          exact hK _ _ _ ⟨bb,cc,h101,rfl,hO.ext hb3,hO3,hBq.trans (hb3.mono hBq.size)⟩ (by first|(dsimp only [Act.put];done)|(dsimp only [Act.put];first|rfl|(simp [*];done)|(simp [*,ptr];done)))
         ·obtain rfl:=HL.out 3 rfl
          have hC:(meetC w2 wz pm pk M p n (.slice (some ⟨b2,o2,none⟩) n c2) ((r p).tdiv g) ((f' p).tdiv g) (fun i=>s*r i+t*f' i) (fun i=>(r p).tdiv g*f' i + -(f' p).tdiv g*r i) F) [xx 101,xx 106,xx 108] wq:=HC.out
          obtain ⟨bb,cc,h101,h108,hO,hO2,hBq⟩:=hC
          obtain ⟨st,hen,hst⟩:=(HM.out.ext hBq).entry p (by omega) HFP.out
          rw [hen]
          go_simp
          exact hK _ _ _ ⟨bb,cc,st,h101,h108,hO,hO2,hBq,rfl,hst⟩ (by first|(dsimp only [Act.put];done)|(dsimp only [Act.put];first|rfl|(simp [*];done)|(simp [*,ptr];done)))
         ·obtain rfl:=HL.out 4 rfl
          have hC:(meetC w2 wz pm pk M p n (.slice (some ⟨b2,o2,none⟩) n c2) ((r p).tdiv g) ((f' p).tdiv g) (fun i=>s*r i+t*f' i) (fun i=>(r p).tdiv g*f' i + -(f' p).tdiv g*r i) F) [xx 101,xx 106,xx 108,xx 109] wq:=HC.out
          obtain ⟨bb,cc,st,h101,h108,hO,hO2,hBq,h109,hst⟩:=hC
          rw [h109]
          go_simp
          exact hK _ _ _ ⟨bb,cc,st,h101,h108,hO,hO2,hBq,rfl,hst⟩ (by first|(dsimp only [Act.put];done)|(dsimp only [Act.put];first|rfl|(simp [*];done)|(simp [*,ptr];done)))
        case r14ac4 =>
         intro xx wz hG hC
         have e0:xx 92=_:=hG 0 _ (by decide) rfl
         have e1:xx 93=_:=hG 1 _ (by decide) rfl
         have e2:xx 94=_:=hG 2 _ (by decide) rfl
         have e3:xx 95=_:=hG 3 _ (by decide) rfl
         have e4:xx 96=_:=hG 4 _ (by decide) rfl
         have e5:xx 97=_:=hG 5 _ (by decide) rfl
         have e6:xx 98=_:=hG 6 _ (by decide) rfl
         have e7:xx 99=_:=hG 7 _ (by decide) rfl
         have e8:xx 100=_:=hG 8 _ (by decide) rfl
         have e10:xx 102=_:=hG 10 _ (by decide) rfl
         have e11:xx 103=_:=hG 11 _ (by decide) rfl
         have e12:xx 104=_:=hG 12 _ (by decide) rfl
         have e13:xx 105=_:=hG 13 _ (by decide) rfl
         have e15:xx 107=_:=hG 15 _ (by decide) rfl
         have hC:(meetC w2 wz pm pk M p n (.slice (some ⟨b2,o2,none⟩) n c2) ((r p).tdiv g) ((f' p).tdiv g) (fun i=>s*r i+t*f' i) (fun i=>(r p).tdiv g*f' i + -(f' p).tdiv g*r i) F) [xx 101,xx 106,xx 108,xx 109,xx 110] wz:=hC
         obtain ⟨bb,cc,st,h101,h108,hO,hO2,hBq,h110,hst⟩:=hC
         obtain ⟨w20,hrun,hM20,hb20⟩:=hst (.slice (some ⟨bb,0,none⟩) n n)
         have HO:=hid hO;have HO2:=hid hO2;have HBq:=hid hBq;have HM20:=hid hM20;have HB20:=hid hb20
         clear hG hO hO2 hBq hst hM20 hb20
         refine tail_one (i:=19) (by kernel_rfl) rfl ?_
         intro K hK
         go_simp
         refine hK _ _ ?_
         clear hK
         (refine tail_one (i:=20) (by kernel_rfl) rfl ?_;intro K hK;go_simp;refine hK _ _ ?_;clear hK)
         refine wpAny_done (by kernel_rfl) ?_ _
         go_wp2
         go_roundw
         case rel =>
          have hMz:=HM.out.ext HBq.out
          exact ⟨p+1,_,_,by omega,by go_num,hid ((HO2.out.vec (Nat.le_refl _) (by unfold maxLen;omega)).vec.butM hMz HB20.out),
           hid ((hl.out.ext HBq.out).put hMz (fun q hq=>(HF.out q hq).imp id fun ⟨v,r,a,b,c⟩=>⟨v,r,a,b,c.ext HBq.out⟩) (HO.out.vec (Nat.le_refl _) (by unfold maxLen;omega)).vec HB20.out HM20.out),
           hid (hI.out.meet hX hlt HRP.out HMT.out),hid ((hbe.out.ext HBq.out).trans HB20.out)⟩
         case measure=>simp [intOf];omega
      ·have hmt:=HMT.out
       have hg0:g≠0:=by have:=hmt.pos;omega
       have hgb:=hmt.gs (by omega)
       have hwr:Wide (r p):=wide_lv hw hX hcn (hbr p)
       have hwf:Wide (f' p):=wide_lv hw hX hcn (hlevf p)
       have hwg:Wide g:=wide_lv hw hX hcn (by have:=hbr p;omega)
       have Y1:=hid (HZ1.out.ext B12.out)
       have Y2:=hid (HZ2.out.ext B12.out)
       clear hgb hmt
       refine wp_region_kc (w0:=w12) 14 [78,79,80,81,82,83,84,85,86,87,88,89,90,91]
        [.l none (leafA IntBlk · w12.heap.size),.c (.slice (some ⟨b2,o2,none⟩) n c2),.c (.int .i64 p),.c (.pointer (some ⟨b2,o2+p,none⟩)),.c (.pointer (some ⟨p2,0,none⟩)),.c (.pointer (some ⟨pg,0,none⟩)),.l (some 78) (leafR 78 · (fun q w=>BigP w q ((r p).tdiv g)) w12.heap.size),.l none (leafA IntBlk · w12.heap.size),.c (.slice (some ⟨b1,o1,none⟩) n cv),.c (.int .i64 p),.c (.pointer (some ⟨b1,o1+p,none⟩)),.c (.pointer (some ⟨p1,0,none⟩)),.c (.pointer (some ⟨pg,0,none⟩)),.l (some 85) (leafR 85 · (fun q w=>BigP w q ((f' p).tdiv g)) w12.heap.size)]
        [78,85] IntBlk (by kernel_rfl) (by kernel_rfl) (by kernel_rfl) rfl (F:=?cFr13b) ?r13bc1 ?r13bc2 ?r13bc3 ?r13bc4
       case r13bc1 =>
        intro x
        simp only [fullC,Act.put,List.setIfInBounds_toArray,List.set_cons_zero,List.set_cons_succ]
        rfl
       case r13bc2 =>
        exact ⟨keeps_alloc intBlk_ext intBlk_other _ _ _ _ _,keeps_res (calm_big _) _ _ _ _ _ rfl (by decide),keeps_alloc intBlk_ext intBlk_other _ _ _ _ _,keeps_res (calm_big _) _ _ _ _ _ rfl (by decide),trivial⟩
       case r13bc3 =>
        refine ⟨?_,?_,?_,?_,?_,?_,?_,?_,?_,?_,?_,?_,?_,?_,trivial⟩
        all_goals
         intro xx wq HE hd K hK
         have hc:=(bcell HE).1
         have n1':=(hc _ _ (cell_lt n1)).trans n1
         have n2':=(hc _ _ (cell_lt n2)).trans n2
         try have g0:=hd 0 _ (by decide) rfl
         try have g6:=hd 6 _ (by decide) rfl
         try have g7:=hd 7 _ (by decide) rfl
         try have g13:=hd 13 _ (by decide) rfl
         have HE:=hid HE
         have HC:=hid hc
         clear hd hc
         all_goals go_simp
         try (refine hK _ _ _ (mv_const _ rfl) ?_;dsimp only [Act.put];first|done|rfl|(simp [*];done))
        ·refine hK _ _ _ (mv_alloc _ HE.out.size (IntBlk.new _)) ?_
         dsimp only [Act.put]
         first|rfl|(simp [*];done)|(simp [*,ptr];done)
        ·obtain ⟨q,h9',hk1,hk2⟩:=g0
         rw [h9']
         refine (quo_calls q p2 pg (r p) g wq hk2 (Y2.out.ext HE.out) (G12.out.ext HE.out) hg0 hwr hwg).mono ?_
         rintro e w3 ⟨rfl,hz3,hb3⟩
         exact hK _ _ _ (mv_set h9' hk1 hk2 hz3.blk hb3 hz3 (by decide) rfl) (by first|(dsimp only [Act.put];done)|(dsimp only [Act.put];first|rfl|(simp [*];done)|(simp [*,ptr];done)))
        ·refine hK _ _ _ (mv_alloc _ HE.out.size (IntBlk.new _)) ?_
         dsimp only [Act.put]
         first|rfl|(simp [*];done)|(simp [*,ptr];done)
        ·obtain ⟨q,h9',hk1,hk2⟩:=g7
         rw [h9']
         refine (quo_calls q p1 pg (f' p) g wq hk2 (Y1.out.ext HE.out) (G12.out.ext HE.out) hg0 hwf hwg).mono ?_
         rintro e w3 ⟨rfl,hz3,hb3⟩
         exact hK _ _ _ (mv_set h9' hk1 hk2 hz3.blk hb3 hz3 (by decide) rfl) (by first|(dsimp only [Act.put];done)|(dsimp only [Act.put];first|rfl|(simp [*];done)|(simp [*,ptr];done)))
       case r13bc4 =>
        intro xx wz hE hG hA
        have g0:=hG 0 _ rfl
        have e1:xx 79=_:=hG 1 _ rfl
        have e2:xx 80=_:=hG 2 _ rfl
        have e3:xx 81=_:=hG 3 _ rfl
        have e4:xx 82=_:=hG 4 _ rfl
        have e5:xx 83=_:=hG 5 _ rfl
        have g6:=hG 6 _ rfl
        have g7:=hG 7 _ rfl
        have e8:xx 86=_:=hG 8 _ rfl
        have e10:xx 88=_:=hG 10 _ rfl
        have e11:xx 89=_:=hG 11 _ rfl
        have e12:xx 90=_:=hG 12 _ rfl
        have g13:=hG 13 _ rfl
        obtain ⟨pk,h78,h84,hk1,hk2⟩:=g6
        obtain ⟨pm,h85,h91,hm1,hm2⟩:=g13
        have hkm:pk≠pm:=by
         have:=hA 78 85 (by decide) (by decide) (by decide) (by decide) (by decide)
         rintro rfl;exact this (h78.trans h85.symm)
        simp only [ptr] at h84 h91
        have KK:=hid hk2;have MM:=hid hm2
        have S14:=hid (S12.out.ext hE);have T14:=hid (T12.out.ext hE)
        have hB14:Below w2.heap.size w2 wz:=B12.out.trans (hE.mono B12.out.size)
        have B14:=hid hB14
        have hz12:=B12.out.size
        have hz14:=hB14.size
        clear hA hG hE hk2 hm2 g0 g7 hB14
        (refine tail_one (i:=14) (by kernel_rfl) rfl ?_;intro K hK;go_simp;refine hK _ _ ?_;clear hK)
        (refine tail_one (i:=15) (by kernel_rfl) rfl ?_;intro K hK;go_simp;refine hK _ _ ?_;clear hK)
        refine wpAny_done (by kernel_rfl) ?_ _
        go_wp2_with fail
        have hmt:=HMT.out
        have hbd:=fun i=>hmt.bound (hbr p) (hlevf p) hX1 (hbr i) (hlevf i)
        have hlv:∀ z:Int,z.natAbs≤3*(lv X (cnt rows p)*lv X (cnt rows p))→Wide z:=fun z hz=>wide_lv hw hX hcn1 (by simp only [lv];exact hz)
        have hlvs:lv X (cnt rows p)≤3*(lv X (cnt rows p)*lv X (cnt rows p)):=Lp.lv_step hX (cnt rows p)
        have ws:Wide s:=hlv _ (by have:=hmt.ss;have:=hlevf p;omega)
        have wt:Wide t:=hlv _ (by have:=hmt.ts;have:=hbr p;have:lv X (cnt rows p)*1≤lv X (cnt rows p)*lv X (cnt rows p):=Nat.mul_le_mul_left _ hX1;omega)
        have wk:Wide ((r p).tdiv g):=hlv _ (by have:=hmt.ks;have:=hbr p;omega)
        have wm:Wide (-(f' p).tdiv g):=hlv _ (by have:=hmt.ms;have:=hlevf p;omega)
        have wr1:∀ i,i<n→Wide (r i):=fun i _=>hlv _ (Nat.le_trans (hbr i) hlvs)
        have wf1:∀ i,i<n→Wide (f' i):=fun i _=>hlv _ (Nat.le_trans (hlevf i) hlvs)
        have hc14:wz.cell? ⟨L,1,none⟩=some (.map (some M)):=(hl.out.ext B14.out).c1
        have HBD:=hid hbd;have HLV:=hid hlv
        clear hmt hbd hlv hlvs
        refine wp_region_chain (w0:=wz) 19 [92,93,94,95,96,97,98,99,100,101,102,103,104,105,106,107,108,109,110]
         [some (.pointer (some ⟨L,0,none⟩)),some (.pointer (some ⟨L,0,none⟩)),some (.pointer (some ⟨L,1,none⟩)),some (.map (some M)),some (.int .i64 p),some (.pointer (some ⟨w2.heap.size,0,none⟩)),some (.slice (some ⟨b2,o2,none⟩) n c2),some (.pointer (some ⟨(w2.heap.size+1),0,none⟩)),some (.slice (some ⟨b1,o1,none⟩) n cv),none,some (.pointer (some ⟨pk,0,none⟩)),some (.slice (some ⟨b1,o1,none⟩) n cv),some (.pointer (some ⟨pm,0,none⟩)),some (.pointer (some ⟨pm,0,none⟩)),none,some (.slice (some ⟨b2,o2,none⟩) n c2),none,none,none]
         [9,14,16,17,18] (meetC w2 wz pm pk M p n (.slice (some ⟨b2,o2,none⟩) n c2) ((r p).tdiv g) ((f' p).tdiv g) (fun i=>s*r i+t*f' i) (fun i=>(r p).tdiv g*f' i + -(f' p).tdiv g*r i) F) (by kernel_rfl) (by kernel_rfl) (by kernel_rfl) (F:=?cFr14b) ?r14bc1 (rfl) ?r14bc3 ?r14bc4
        case r14bc1 =>
         intro x
         simp only [fullF,Act.put,List.setIfInBounds_toArray,List.set_cons_zero,List.set_cons_succ]
         rfl
        case r14bc3 =>
         refine ⟨?_,?_,?_,?_,?_,?_,?_,?_,?_,?_,?_,?_,?_,?_,?_,?_,?_,?_,?_,trivial⟩
         all_goals
          intro xx wq kk hkk hC hcon hlk K hK
          have hc:=(bcell (meetC_below B14.out hC)).1
          have hc1':=(hc _ _ (cell_lt hc1)).trans hc1
          try have e0:xx 92=_:=hcon 0 _ (by decide) rfl
          try have e1:xx 93=_:=hcon 1 _ (by decide) rfl
          try have e2:xx 94=_:=hcon 2 _ (by decide) rfl
          try have e3:xx 95=_:=hcon 3 _ (by decide) rfl
          try have e4:xx 96=_:=hcon 4 _ (by decide) rfl
          try have e5:xx 97=_:=hcon 5 _ (by decide) rfl
          try have e6:xx 98=_:=hcon 6 _ (by decide) rfl
          try have e7:xx 99=_:=hcon 7 _ (by decide) rfl
          try have e8:xx 100=_:=hcon 8 _ (by decide) rfl
          try have e10:xx 102=_:=hcon 10 _ (by decide) rfl
          try have e11:xx 103=_:=hcon 11 _ (by decide) rfl
          try have e12:xx 104=_:=hcon 12 _ (by decide) rfl
          try have e13:xx 105=_:=hcon 13 _ (by decide) rfl
          try have e15:xx 107=_:=hcon 15 _ (by decide) rfl
          have HCC:=hid hc
          clear hcon hc
          have HC:=hid hC
          clear hC
          have HL:=hid hlk
          clear hlk
          go_simp
          try (refine hK _ _ _ ⟨rfl,rfl⟩ ?_;dsimp only [Act.put];first|done|rfl|(simp [*];done))
         ·obtain rfl:=HL.out 0 rfl
          have hC:(meetC w2 wz pm pk M p n (.slice (some ⟨b2,o2,none⟩) n c2) ((r p).tdiv g) ((f' p).tdiv g) (fun i=>s*r i+t*f' i) (fun i=>(r p).tdiv g*f' i + -(f' p).tdiv g*r i) F) [] wq:=HC.out
          have hwq:wq=wz.drew:=hC
          subst hwq
          refine (mix_calls w2.heap.size (w2.heap.size+1) n r f' s t (.slice (some ⟨b2,o2,none⟩) n c2) (.slice (some ⟨b1,o1,none⟩) n cv) wz.drew (S14.out.ext (drewN_below wz 1)) (T14.out.ext (drewN_below wz 1)) ((HVB.out.ext B14.out).ext (drewN_below wz 1)) ((hv.out.ext B14.out).ext (drewN_below wz 1)) hn ws wt wr1 wf1 (fun i _=>HLV.out _ (HBD.out i).1) (fun i _=>HLV.out _ (HBD.out i).2.1)).mono ?_
          rintro e w3 ⟨bb,rfl,hbb,hO3,hb3,hn3⟩
          exact hK _ _ _ ⟨bb,rfl,hbb,hO3,hn3,ext_trans (drewN_below wz 1) hb3⟩ (by first|(dsimp only [Act.put];done)|(dsimp only [Act.put];first|rfl|(simp [*];done)|(simp [*,ptr];done)))
         ·obtain rfl:=HL.out 1 rfl
          have hC:(meetC w2 wz pm pk M p n (.slice (some ⟨b2,o2,none⟩) n c2) ((r p).tdiv g) ((f' p).tdiv g) (fun i=>s*r i+t*f' i) (fun i=>(r p).tdiv g*f' i + -(f' p).tdiv g*r i) F) [xx 101] wq:=HC.out
          obtain ⟨bb,h101,hbb,hO,hN,hBq⟩:=hC
          have hmq:=MM.out.ext hBq
          refine (neg_t pm pm ((f' p).tdiv g) wq hmq.blk hmq).mono ?_
          rintro e w3 ⟨rfl,hz3,hb3,-⟩
          have hB2q:Below w2.heap.size w2 wq:=B14.out.trans (hBq.mono B14.out.size)
          exact hK _ _ _ ⟨rfl,bb,h101,by have:=B14.out.size;omega,hO.but hmq.blk hb3 (fun i hi e=>by have:=hN i hi _ e;have:=MM.out.lt;omega),hz3,(KK.out.ext hBq).but hmq.blk hb3 hkm,hB2q.trans (hb3.below (by omega) hB2q.size)⟩ (by first|(dsimp only [Act.put];done)|(dsimp only [Act.put];first|rfl|(simp [*];done)|(simp [*,ptr];done)))
         ·obtain rfl:=HL.out 2 rfl
          have hC:(meetC w2 wz pm pk M p n (.slice (some ⟨b2,o2,none⟩) n c2) ((r p).tdiv g) ((f' p).tdiv g) (fun i=>s*r i+t*f' i) (fun i=>(r p).tdiv g*f' i + -(f' p).tdiv g*r i) F) [xx 101,xx 106] wq:=HC.out
          obtain ⟨h106,bb,h101,hbb,hO,hm3,hk3,hBq⟩:=hC
          rw [h106]
          refine (mix_calls pk pm n f' r ((r p).tdiv g) (-(f' p).tdiv g) (.slice (some ⟨b1,o1,none⟩) n cv) (.slice (some ⟨b2,o2,none⟩) n c2) wq hk3 hm3 (hv.out.ext hBq) (HVB.out.ext hBq) hn wk wm wf1 wr1 (fun i _=>HLV.out _ (HBD.out i).2.2.2.1) (fun i _=>HLV.out _ (HBD.out i).2.2.2.2.1)).mono ?_
          rintro e w3 ⟨cc,rfl,hcc,hO3,hb3,-⟩
          exact hK _ _ _ ⟨bb,cc,h101,rfl,hO.ext hb3,hO3,hBq.trans (hb3.mono hBq.size)⟩ (by first|(dsimp only [Act.put];done)|(dsimp only [Act.put];first|rfl|(simp [*];done)|(simp [*,ptr];done)))
         ·obtain rfl:=HL.out 3 rfl
          have hC:(meetC w2 wz pm pk M p n (.slice (some ⟨b2,o2,none⟩) n c2) ((r p).tdiv g) ((f' p).tdiv g) (fun i=>s*r i+t*f' i) (fun i=>(r p).tdiv g*f' i + -(f' p).tdiv g*r i) F) [xx 101,xx 106,xx 108] wq:=HC.out
          obtain ⟨bb,cc,h101,h108,hO,hO2,hBq⟩:=hC
          obtain ⟨st,hen,hst⟩:=(HM.out.ext hBq).entry p (by omega) HFP.out
          rw [hen]
          go_simp
          exact hK _ _ _ ⟨bb,cc,st,h101,h108,hO,hO2,hBq,rfl,hst⟩ (by first|(dsimp only [Act.put];done)|(dsimp only [Act.put];first|rfl|(simp [*];done)|(simp [*,ptr];done)))
         ·obtain rfl:=HL.out 4 rfl
          have hC:(meetC w2 wz pm pk M p n (.slice (some ⟨b2,o2,none⟩) n c2) ((r p).tdiv g) ((f' p).tdiv g) (fun i=>s*r i+t*f' i) (fun i=>(r p).tdiv g*f' i + -(f' p).tdiv g*r i) F) [xx 101,xx 106,xx 108,xx 109] wq:=HC.out
          obtain ⟨bb,cc,st,h101,h108,hO,hO2,hBq,h109,hst⟩:=hC
          rw [h109]
          go_simp
          exact hK _ _ _ ⟨bb,cc,st,h101,h108,hO,hO2,hBq,rfl,hst⟩ (by first|(dsimp only [Act.put];done)|(dsimp only [Act.put];first|rfl|(simp [*];done)|(simp [*,ptr];done)))
        case r14bc4 =>
         intro xx wz hG hC
         have e0:xx 92=_:=hG 0 _ (by decide) rfl
         have e1:xx 93=_:=hG 1 _ (by decide) rfl
         have e2:xx 94=_:=hG 2 _ (by decide) rfl
         have e3:xx 95=_:=hG 3 _ (by decide) rfl
         have e4:xx 96=_:=hG 4 _ (by decide) rfl
         have e5:xx 97=_:=hG 5 _ (by decide) rfl
         have e6:xx 98=_:=hG 6 _ (by decide) rfl
         have e7:xx 99=_:=hG 7 _ (by decide) rfl
         have e8:xx 100=_:=hG 8 _ (by decide) rfl
         have e10:xx 102=_:=hG 10 _ (by decide) rfl
         have e11:xx 103=_:=hG 11 _ (by decide) rfl
         have e12:xx 104=_:=hG 12 _ (by decide) rfl
         have e13:xx 105=_:=hG 13 _ (by decide) rfl
         have e15:xx 107=_:=hG 15 _ (by decide) rfl
         have hC:(meetC w2 wz pm pk M p n (.slice (some ⟨b2,o2,none⟩) n c2) ((r p).tdiv g) ((f' p).tdiv g) (fun i=>s*r i+t*f' i) (fun i=>(r p).tdiv g*f' i + -(f' p).tdiv g*r i) F) [xx 101,xx 106,xx 108,xx 109,xx 110] wz:=hC
         obtain ⟨bb,cc,st,h101,h108,hO,hO2,hBq,h110,hst⟩:=hC
         obtain ⟨w20,hrun,hM20,hb20⟩:=hst (.slice (some ⟨bb,0,none⟩) n n)
         have HO:=hid hO;have HO2:=hid hO2;have HBq:=hid hBq;have HM20:=hid hM20;have HB20:=hid hb20
         clear hG hO hO2 hBq hst hM20 hb20
         refine tail_one (i:=19) (by kernel_rfl) rfl ?_
         intro K hK
         go_simp
         refine hK _ _ ?_
         clear hK
         (refine tail_one (i:=20) (by kernel_rfl) rfl ?_;intro K hK;go_simp;refine hK _ _ ?_;clear hK)
         refine wpAny_done (by kernel_rfl) ?_ _
         go_wp2
         go_roundw
         case rel =>
          have hMz:=HM.out.ext HBq.out
          exact ⟨p+1,_,_,by omega,by go_num,hid ((HO2.out.vec (Nat.le_refl _) (by unfold maxLen;omega)).vec.butM hMz HB20.out),
           hid ((hl.out.ext HBq.out).put hMz (fun q hq=>(HF.out q hq).imp id fun ⟨v,r,a,b,c⟩=>⟨v,r,a,b,c.ext HBq.out⟩) (HO.out.vec (Nat.le_refl _) (by unfold maxLen;omega)).vec HB20.out HM20.out),
           hid (hI.out.meet hX hlt HRP.out HMT.out),hid ((hbe.out.ext HBq.out).trans HB20.out)⟩
         case measure=>simp [intOf];omega
  ·obtain rfl:p=n:=by omega
   go_wp2
   go_end0
   exact ⟨rfl,rows',hl.out,hI.out.done,hbe.out⟩
end
end Go.Proofs.YtkljafmdbajfeaaGreatDoor
