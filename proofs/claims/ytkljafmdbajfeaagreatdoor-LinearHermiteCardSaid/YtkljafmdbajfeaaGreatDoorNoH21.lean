/- Package exact: mix, a new vector of two. -/
import Derived.Test.YtkljafmdbajfeaaGreatDoorNoH20
namespace Go.Proofs.YtkljafmdbajfeaaGreatDoor
set_option linter.unusedVariables false
set_option linter.unusedSimpArgs false
open Go.Lib (hid)
section
open Go.RowKit
def nils (n:Nat):List Value:=List.replicate n (.pointer none)
theorem infoPtr:(Tryz.prog.info? 150).map (fun i=>(i.zero,i.size,i.bytes))=some (some (.pointer none),1,8):=by kernel_rfl
theorem madeNils (n:Nat):madeCells (Value.pointer none).cells n=(nils n).toArray:=by
 unfold madeCells nils
 apply Array.ext
 ·simp
 ·intro j h1 h2;simp [Value.cells,Nat.mod_one]
theorem run_makeVec (w:World) (n:Nat) (h:n≤35184372088832) :
 (Instr.makeSlice 112 (.int .i64 n) (.int .i64 n)).run Tryz.prog w=.ok (.slice (some ⟨w.heap.size,0,none⟩) n n) (w.alloc (.cells (nils n).toArray 150 (0,0))):=by
 obtain ⟨i,hi,hz,hs,hb⟩:=info_parts infoPtr
 rw [run_make w 112 150 i (.pointer none) Tryz.underlying112 hi hz .i64 .i64 n n (by omega) (by omega) (by rw [hb];omega) (by omega)]
 simp only [Int.toNat_natCast,hs,Nat.mul_one]
 rw [madeNils]
theorem OwnV.made (w:World) (n:Nat) (f:Nat→Int):OwnV (w.alloc (.cells (nils n).toArray 150 (0,0))) w.heap.size n 0 f:=by
 have hb:=Blk.new w (nils n) 150
 refine ⟨fun o x e=>?_,hb.lt,fun i=>hb.free i,fun i hi=>⟨none,?_⟩,fun i hi=>by omega⟩
 ·have:=cell_in hb e
  exact ⟨none,List.eq_of_mem_replicate this⟩
 ·have hl:i<(nils n).length:=by unfold nils;simpa using hi
  rw [hb.cell i hl];simp [nils]
theorem OwnV.but {w w':World} {b p n m:Nat} {f:Nat→Int} (h:OwnV w b n m f) (hp:IntBlk w p) (hb:But p w w') (hm:∀ i,i<m→w.cell? ⟨b,i,none⟩≠some (.pointer (some ⟨p,0,none⟩))):OwnV w' b n m f:=by
 have hne:b≠p:=by
  rintro rfl
  obtain ⟨x,A,k,c,h0,-⟩:=hp.c
  obtain ⟨a,e⟩:=h.ptrs _ _ h0;cases e
 have hs:=hb.block b h.lt hne
 have hc:∀ o,w'.cell? ⟨b,o,none⟩=w.cell? ⟨b,o,none⟩:=fun o=>World.cell?_of_block (a:=⟨b,o,none⟩) hs
 refine ⟨h.ptrs.same hs,Nat.lt_of_lt_of_le h.lt hb.size,fun i=>(World.frozen?_of_block (a:=⟨b,i,none⟩) hs).trans (h.fr i),fun i hi=>?_,fun i hi=>?_⟩
 ·rw [hc];exact h.ex i hi
 ·obtain ⟨q,h1,h2⟩:=h.num i hi
  refine ⟨q,by rw [hc];exact h1,h2.but hp hb ?_⟩
  rintro rfl;exact hm i hi h1
set_option maxRecDepth 100000 in
set_option maxHeartbeats 2000000 in
theorem mix_calls (ps pt n:Nat) (f g:Nat→Int) (s t:Int) (u v:Value) (w:World) (hs:BigP w ps s) (ht:BigP w pt t) (hu:VecP w u n f) (hv:VecP w v n g) (hn:n≤1000)
 (ws:Wide s) (wt:Wide t) (wf:∀ i,i<n→Wide (f i)) (wg:∀ i,i<n→Wide (g i)) (wp:∀ i,i<n→Wide (s*f i)) (wq:∀ i,i<n→Wide (t*g i)) :
 Calls Tryz.prog 184 #[.pointer (some ⟨ps,0,none⟩),u,.pointer (some ⟨pt,0,none⟩),v] w fun e w'=>∃ b,e=.returned (.slice (some ⟨b,0,none⟩) n n)∧w.heap.size≤b∧OwnV w' b n n (fun i=>s*f i+t*g i)∧Below w.heap.size w w'∧NewV w' b n w.heap.size:=by
 obtain ⟨A,cu,rfl,hcu,-⟩:=id hu
 have hmk:=fun w=>run_makeVec w n (by omega)
 have HO:=fun w=>OwnV.made w n (fun i=>s*f i)
 have HS:=hid hs;have HT:=hid ht;have HV:=hid hv;have HU:=hid hu
 have HA:Hid (Below w.heap.size w (w.alloc (.cells (nils n).toArray 150 (0,0)))):=hid ((Below.refl _ _).alloc (Nat.le_refl _) _)
 clear hs ht hv hu
 go_enter Tryz.func184,Tryz.ntmps184
 go_wp2_with fail
 go_loopw [16] (fun t wr=>∃ (i:Nat),i≤n∧t=.int .i64 i∧Hid (OwnV wr w.heap.size n i (fun j=>s*f j))∧Hid (Below w.heap.size w wr)) (fun t _=>n-(intOf t).toNat)
 case atStart=>exact ⟨0,Nat.zero_le _,rfl,hid (HO w),HA⟩
 case round =>
  obtain ⟨i,hi,rfl,hW,hbe⟩:=hrel
  by_cases hlt:i<n
  ·have hn1:(i:Int)<n:=by omega
   obtain ⟨b2,o2,p2,rfl,-,q2,hz2⟩:=(HU.out.ext hbe.out).at hlt
   have hA1:Below wr.heap.size wr (wr.alloc (.cells #[.bool false,.slice none 0 0] 196 (0,0))):=(Below.refl _ _).alloc (Nat.le_refl _) _
   have hm:=mul_t wr.heap.size ps p2 s (f i) _ (IntBlk.of (Blk.new wr [.bool false,.slice none 0 0] _)) ((HS.out.ext hbe.out).ext hA1) (hz2.ext hA1) ws (wf i hlt)
   have HM:=hid hm;have HA1:=hid hA1
   have hbl:b2<wr.heap.size:=cell_lt q2
   have q3:∀ o,(wr.alloc o).cell? ⟨b2,o2+i,none⟩=some (.pointer (some ⟨p2,0,none⟩)):=fun o=>by rw [←q2];exact World.cell?_of_block (a:=⟨b2,o2+i,none⟩) (((Below.refl wr.heap.size wr).alloc (Nat.le_refl _) o).block _ hbl)
   clear hm hA1 hz2 hcu
   go_wp2_with fail
   refine HM.out.mono ?_;rintro e w2 ⟨rfl,hz3,hb3,-⟩
   have hb4:Below wr.heap.size wr w2:=HA1.out.trans (hb3.below (Nat.le_refl _) HA1.out.size)
   have hW2:=hW.out.ext hb4
   obtain ⟨a5,hc5⟩:=hW2.ex i hlt
   have hf5:=hW2.fr i
   have hst:=hW2.set (m':=i+1) (g:=fun j=>s*f j) hlt hz3 (fun j hj hne=>⟨by omega,rfl⟩)
   have HST:=hid hst;have HB:=hid (hbe.out.trans (hb4.mono hbe.out.size))
   clear hst hb4 hW2 hz3 hb3
   go_wp2
   go_roundw
   case rel=>exact ⟨i+1,by omega,by go_num,HST,hid (HB.out.setCell (Nat.le_refl _) _)⟩
   case measure=>simp [intOf];omega
  ·obtain rfl:i=n:=by omega
   have hlt2:w.heap.size<wr.heap.size:=hW.out.lt
   have hadd:=vecAdd_calls w.heap.size i pt i (fun j=>s*f j) g t v wr hW.out (HT.out.ext hbe.out) ((HV.out.low.ext hbe.out).mono fun b hb=>by omega) hn wt wp wg wq
   have HADD:=hid hadd
   clear hadd
   go_wp2_with fail
   refine HADD.out.mono ?_;rintro e w2 ⟨rfl,hO2,hb2,hnw⟩
   go_wp2
   go_ret
   exact ⟨_,rfl,Nat.le_refl _,hO2,hbe.out.trans (hb2.below (Nat.le_refl _) hbe.out.size),fun i hi p e=>Nat.le_trans hbe.out.size (hnw i hi p e)⟩
end
section
open Go.RowKit Go.ChangeMaps
theorem tail_two {P:Program} {ops:Array Oper} {Q:Exit→Act→World→Prop} {fuel i j:Nat} {o o':Oper} {listed:Array Bool} {a:Act} {w:World} (hr:Region.ready .any ops listed=[i,j]) (ho:ops[i]? = some o) (ho':ops[j]? = some o')
 (h:∀ K':Act→World→Prop,(∀ a w,wpAny P .any ops Q fuel (listed.setIfInBounds i true) a w→K' a w)→if Region.wanted o (yielded ops a.tmps)=true then Oper.wp P o a w K' Q else K' (a.put o.dst undef) w)
 (h':∀ K':Act→World→Prop,(∀ a w,wpAny P .any ops Q fuel (listed.setIfInBounds j true) a w→K' a w)→if Region.wanted o' (yielded ops a.tmps)=true then Oper.wp P o' a w K' Q else K' (a.put o'.dst undef) w) :
 wpAny P .any ops Q (fuel+1) listed a w:=by
 refine wpAny_all hr (by simp) fun k hk=>?_
 have hk':k=i∨k=j:=by simpa using hk
 rcases hk' with rfl|rfl
 ·exact wpOp_step ho h
 ·exact wpOp_step ho' h'
theorem wide_div {a b:Int} (h:Wide a) (hb:0<b):Wide (a / b):=by
 refine h.mono ?_
 rcases Int.lt_or_le a 0 with h1|h1
 ·have h2:a≤a / b:=by
   have:=Int.le_ediv_of_mul_le hb (a:=a) (b:=a) (by
    have:a*b≤a*1:=Int.mul_le_mul_of_nonpos_left (by omega) (by omega)
    omega)
   exact this
  have h3:a / b<0:=Int.ediv_neg_of_neg_of_pos h1 hb
  omega
 ·have h2:a / b≤a:=Int.ediv_le_self b h1
  have h3:0≤a / b:=Int.ediv_nonneg h1 (by omega)
  omega
set_option maxRecDepth 100000 in
set_option maxHeartbeats 2000000 in
theorem down_calls (L M b cb n p:Nat) (F:Nat→Option Value) (f r:Nat→Int) (v:Value) (w:World) (hc1:w.cell? ⟨L,1,none⟩=some (.map (some M))) (hM:MapIs w M F) (hF:F p=some v) (hO:OwnV w b n n f) (hv:VecX (·≠b) w v n r) (hn:n≤1000) (hp:p<n)
 (hr:0<r p) (wf:∀ i,i<n→Wide (f i)) (wr:∀ i,i<n→Wide (r i)) (wk:∀ i,i<n→Wide (-(f p / r p)*r i)) :
 Calls Tryz.prog 146 #[.pointer (some ⟨L,0,none⟩),.slice (some ⟨b,0,none⟩) n cb,.int .i64 p] w fun e w'=>e=.returned (.tuple #[])∧OwnV w' b n n (fun i=>f i + -(f p / r p)*r i)∧But b w w':=by
 have hlook:=hM.look p (by omega)
 rw [hF,Option.getD_some] at hlook
 obtain ⟨A,cv,rfl,hcv,-⟩:=id hv
 obtain ⟨b2,o2,p2,rfl,hne,q2,hz2⟩:=hv.at hp
 obtain ⟨p3,q3,hz3⟩:=hO.num p hp
 have HO:=hid hO;have HV:=hid hv;have HG:=hid hz2;have HF:=hid hz3
 have wkk:Wide (f p / r p):=wide_div (wf p hp) hr
 have hpn:(p:Int)<n:=by omega
 have hbl:=hO.lt
 clear hO hv hz2 hz3 hF hM
 go_enter Tryz.func146,Tryz.ntmps146
 go_wp2_with fail
 refine wp_region_kc (w0:=w) 10 [16,17,18,19,20,21,22,23,24,25]
  [.l none (leafA IntBlk · w.heap.size),.c (.slice (some ⟨b,0,none⟩) n cb),.c (.int .i64 p),.c (.pointer (some ⟨b,p,none⟩)),.c (.pointer (some ⟨p3,0,none⟩)),.c (.slice (some ⟨b2,o2,none⟩) n cv),.c (.int .i64 p),.c (.pointer (some ⟨b2,o2+p,none⟩)),.c (.pointer (some ⟨p2,0,none⟩)),.l none (leafA IntBlk · w.heap.size)]
  [16,25] IntBlk (by kernel_rfl) (by kernel_rfl) (by kernel_rfl) rfl (F:=?cFr1) ?r1c1 ?r1c2 ?r1c3 ?r1c4
 case r1c1 =>
  intro x
  simp only [fullC,Act.put,List.setIfInBounds_toArray,List.set_cons_zero,List.set_cons_succ]
  rfl
 case r1c2 =>
  exact ⟨keeps_alloc intBlk_ext intBlk_other _ _ _ _ _,keeps_alloc intBlk_ext intBlk_other _ _ _ _ _,trivial⟩
 case r1c3 =>
  refine ⟨?_,?_,?_,?_,?_,?_,?_,?_,?_,?_,trivial⟩
  all_goals
   intro xx wq HE hd K hK
   have hc:=(bcell HE).1
   have q2':=(hc _ _ (cell_lt q2)).trans q2
   have q3':=(hc _ _ (cell_lt q3)).trans q3
   try have g0:=hd 0 _ (by decide) rfl
   try have g9:=hd 9 _ (by decide) rfl
   have HE:=hid HE
   have HC:=hid hc
   clear hd hc
   all_goals go_simp
   try (refine hK _ _ _ (mv_const _ rfl) ?_;dsimp only [Act.put];first|done|rfl|(simp [*];done))
  ·refine hK _ _ _ (mv_alloc _ HE.out.size (IntBlk.new _)) ?_
   dsimp only [Act.put]
   first|rfl|(simp [*];done)|(simp [*,ptr];done)
  ·refine hK _ _ _ (mv_alloc _ HE.out.size (IntBlk.new _)) ?_
   dsimp only [Act.put]
   first|rfl|(simp [*];done)|(simp [*,ptr];done)
 case r1c4 =>
  intro xx wz hE hG hA
  have g0:=hG 0 _ rfl
  have g9:=hG 9 _ rfl
  obtain ⟨pk,h16,hk1,hk2⟩:=g0
  obtain ⟨pm,h25,hm1,hm2⟩:=g9
  have hne':pk≠pm:=by
   have:=hA 16 25 (by decide) (by decide) (by decide) (by decide) (by decide)
   rintro rfl;exact this (h16.trans h25.symm)
  simp only [ptr] at h16 h25
  have HDM:=hid (divMod_calls pk p3 p2 pm (f p) (r p) wz hk2 hm2 hne' (HF.out.ext hE) (HG.out.ext hE) hr (wf p hp) (wr p hp))
  have HE:=hid hE
  clear hA hG hE
  refine tail_one (i:=10) (by kernel_rfl) rfl ?_
  intro K hK
  go_simp
  refine HDM.out.mono ?_
  rintro e w2 ⟨rfl,hz2,-,hb2⟩
  refine hK _ _ ?_
  have hB2:Below w.heap.size w w2:=HE.out.trans (hb2.below hk1 hm1 HE.out.size)
  have HB2:=hid hB2;have HZ2:=hid hz2
  clear hK hz2 hb2 hB2 HDM
  (refine tail_one (i:=11) (by kernel_rfl) rfl ?_;intro K hK;go_simp;refine hK _ _ ?_;clear hK)
  have HK2:Hid (Below w.heap.size w w2∧BigP w2 pk (f p / r p)∧IntBlk w2 pk):=hid ⟨HB2.out,HZ2.out,HZ2.out.blk⟩
  have HNG:=hid (neg_t pk pk (f p / r p) w2 HZ2.out.blk HZ2.out)
  have wng:Wide (-(f p / r p)):=wkk.mono (by omega)
  refine tail_two (i:=12) (j:=13) (by kernel_rfl) rfl rfl ?pa ?pb
  case' pa =>
   intro K hK;go_simp;refine hK _ _ ?_;clear hK
   refine tail_two (i:=13) (j:=14) (by kernel_rfl) rfl rfl ?pc ?pd
   case' pc =>
    intro K hK;go_simp;refine hK _ _ ?_;clear hK
    (refine tail_one (i:=14) (by kernel_rfl) rfl ?_;intro K hK;go_simp;refine hK _ _ ?_;clear hK)
   case' pd =>
    intro K hK;go_simp;refine hK _ _ ?_;clear hK
    (refine tail_one (i:=13) (by kernel_rfl) rfl ?_;intro K hK;go_simp;refine hK _ _ ?_;clear hK)
  case' pb =>
   intro K hK;go_simp;refine hK _ _ ?_;clear hK
   (refine tail_one (i:=12) (by kernel_rfl) rfl ?_;intro K hK;go_simp;refine hK _ _ ?_;clear hK)
   (refine tail_one (i:=14) (by kernel_rfl) rfl ?_;intro K hK;go_simp;refine hK _ _ ?_;clear hK)
  all_goals ((refine tail_one (i:=15) (by kernel_rfl) rfl ?_;intro K hK;go_simp;refine hK _ _ ?_;clear hK))
  all_goals
   refine wpAny_done (by kernel_rfl) ?_ _
   go_wp2_with fail
   refine HNG.out.mono ?_;rintro e w3 ⟨rfl,hz3,hb3,-⟩
   have hB3:Below w.heap.size w w3:=HB2.out.trans (hb3.below hk1 HB2.out.size)
   have hadd:=vecAdd_calls b cb pk n f r (-(f p / r p)) _ w3 (HO.out.ext hB3) hz3 (HV.out.ext hB3) hn wng wf wr wk
   have HADD:=hid hadd;have HB3:=hid hB3
   clear hadd hz3 hb3 hB3
   go_wp2_with fail
   refine HADD.out.mono ?_;rintro e w4 ⟨rfl,hO4,hb4,-⟩
   go_wp2
   go_end0
   exact ⟨rfl,hO4,((But.refl b w).ext HB3.out).trans hb4⟩
end
section
open Go.RowKit
theorem nat_inj {ch:List Nat} (hnd:ch.Nodup) {j j' i:Nat} (h:ch[j]? = some i) (h':ch[j']? = some i):j=j':=ds_inj (ds:=ch) hnd h h'
def chainB (ops:Array Oper) (m:Nat) (cs:List (Option Value)) (ch:List Nat):Bool :=
 decide (cs.length=m) && decide ch.Nodup && ch.all (fun i=>decide (i<m) && ((cs.getD i none).isNone)) && (List.range m).all (fun i=>(cs.getD i none).isSome || ch.contains i) &&
 (List.range ch.length).all fun j=>j == 0 || (waitsOn ops (ch.getD j 0)).contains (ch.getD (j-1) 0)
def given (ch:List Nat) (ds:List Tmp) (k:Nat) (x:Tmp→Value):List Value:=(ch.take k).map fun i=>x (ds.getD i 0)
def CGood (cs:List (Option Value)) (C:List Value→World→Prop) (i:Nat) (vs:List Value) (w:World) (v:Value) (w':World):Prop :=
 match cs.getD i none with
 | some c=>v=c∧w'=w
 | none=>C (vs ++ [v]) w'
def CStepAt (P:Program) (ops:Array Oper) (F:(Tmp→Value)→Act) (cs:List (Option Value)) (ch:List Nat) (ds:List Tmp) (C:List Value→World→Prop) (i:Nat) (o:Oper) (t:Tmp):Prop :=
 ∀ x w k,k≤ch.length→C (given ch ds k x) w→(∀ j c,(waitsOn ops i).contains j=true→cs.getD j none=some c→x (ds.getD j 0)=c)→(∀ j,ch[j]? = some i→k=j) →
  ∀ K:Act→World→Prop,(∀ v w' b,CGood cs C i (given ch ds k x) w v w'→b=(F x).put (some t) v→K b w')→if Region.wanted o (yielded ops (F x).tmps)=true then o.wp P (F x) w K (fun _ _ _=>False) else K ((F x).put o.dst undef) w
def CStepsFrom (P:Program) (ops:Array Oper) (F:(Tmp→Value)→Act) (cs:List (Option Value)) (ch:List Nat) (ds0:List Tmp) (C:List Value→World→Prop):Nat→List Oper→List Tmp→Prop
 | i,o :: l,t :: ds=>CStepAt P ops F cs ch ds0 C i o t∧CStepsFrom P ops F cs ch ds0 C (i+1) l ds
 | _,_,_=>True
theorem CStepsFrom.get {P:Program} {ops:Array Oper} {F:(Tmp→Value)→Act} {cs:List (Option Value)} {ch:List Nat} {ds0:List Tmp} {C:List Value→World→Prop}:∀ (l:List Oper) (ds:List Tmp) (n:Nat),CStepsFrom P ops F cs ch ds0 C n l ds →
 ∀ i o t,l[i]? = some o→ds[i]? = some t→CStepAt P ops F cs ch ds0 C (n+i) o t
 | o' :: l,t' :: ds,n,h,i,o,t,ho,ht=>by
   obtain ⟨h1,h2⟩:=h
   cases i with
   | zero=>simp at ho ht;subst ho;subst ht;exact h1
   | succ i =>
     have:=CStepsFrom.get l ds (n+1) h2 i o t (by simpa using ho) (by simpa using ht)
     rw [Nat.add_right_comm] at this;exact this
 | [],_,_,_,i,_,_,ho,_=>by simp at ho
 | _ :: _,[],_,_,i,_,_,_,ht=>by simp at ht
structure CInv (m:Nat) (ds:List Tmp) (cs:List (Option Value)) (ch:List Nat) (C:List Value→World→Prop) (listed:Array Bool) (x:Tmp→Value) (w:World):Prop where
 con:∀ i c,i<m→listed.getD i false=true→cs.getD i none=some c→x (ds.getD i 0)=c
 link:∃ k,k≤ch.length∧(∀ j i,ch[j]? = some i→(listed.getD i false=true↔j<k))∧C (given ch ds k x) w
variable {P:Program} {Q:Exit→Act→World→Prop} {a0:Act} {w0:World} {F:(Tmp→Value)→Act}
theorem wp_region_chain {id:Nat} {l:List Oper} (m:Nat) (ds:List Tmp) (cs:List (Option Value)) (ch:List Nat) (C:List Value→World→Prop) (hm:P.follows .mixedOrders=true)
 (hB:laterB l.toArray m ds []=true) (hO:chainB l.toArray m cs ch=true) (hF:∀ x,fullF a0 ds x=F x) (h0:C [] w0.drew)
 (steps:CStepsFrom P l.toArray F cs ch ds C 0 l ds)
 (fin:∀ x w,(∀ i c,i<m→cs.getD i none=some c→x (ds.getD i 0)=c)→C (given ch ds ch.length x) w→wpAny P .any l.toArray Q (l.length-m) (Array.replicate m true ++ Array.replicate (l.length-m) false) (F x) w) :
 (Code.region id l.toArray true).wp P Q a0 w0:=by
 have ok:=LaterOk.of hB
 have hle:=ok.le
 have hsz:l.toArray.size=l.length:=by simp
 simp only [chainB,Bool.and_eq_true,decide_eq_true_eq,List.all_eq_true,List.mem_range,Bool.or_eq_true,beq_iff_eq,List.contains_iff_mem] at hO
 obtain ⟨⟨⟨⟨hcl,hnd⟩,hch⟩,hall⟩,hlink⟩:=hO
 have hdsg:∀ {i t},ds[i]? = some t→ds.getD i 0=t:=fun h=>by rw [List.getD_eq_getElem?_getD,h];rfl
 have hchn:∀ {j i},ch[j]? = some i→i<m∧cs.getD i none=none:=fun h=>by
  have:=hch _ (List.mem_of_getElem? h)
  exact ⟨this.1,by simpa using this.2⟩
 have hinj:∀ {j j' i},ch[j]? = some i→ch[j']? = some i→j=j':=fun h h'=>nat_inj hnd h h'
 have step:∀ i o t (listed:Array Bool),i<m→l.toArray[i]? = some o→ds[i]? = some t→i<listed.size→listed.getD i true=false→(∀ j∈waitsOn l.toArray i,listed.getD j false=true)→(∀ k,k<m→listed.getD k false=true→∀ j∈waitsOn l.toArray k,listed.getD j false=true)→∀ x w,CInv m ds cs ch C listed x w →
  ∀ K:Act→World→Prop,(∀ v w' b,CInv m ds cs ch C (listed.setIfInBounds i true) (upd x (some t) v) w'→b=(F x).put (some t) v→K b w')→if Region.wanted o (yielded l.toArray (F x).tmps)=true then o.wp P (F x) w K (fun _ _ _=>False) else K ((F x).put o.dst undef) w:=by
  intro i o t listed him ho ht hil hun hwl hclosed x w hI K hK
  have huf:listed.getD i false=false:=by simpa [hil] using hun
  obtain ⟨k,hk,hks,hC⟩:=hI.link
  have hst:=CStepsFrom.get l ds 0 steps i o t (by simpa using ho) ht
  rw [Nat.zero_add] at hst
  -- a link comes up when those before it have
  have hkj:∀ j,ch[j]? = some i→k=j:=fun j hj=>by
   have h1:¬ j<k:=fun h=>by rw [(hks j i hj).2 h] at huf;cases huf
   rcases Nat.lt_or_ge k j with h2|h2
   ·exfalso
    have hjl:=(List.getElem?_eq_some_iff.1 hj).1
    have h3:=hlink j hjl
    rcases h3 with h3|h3
    ·omega
    ·have h4:ch.getD j 0=i:=by rw [List.getD_eq_getElem?_getD,hj];rfl
     have h5:ch[j-1]? = some (ch.getD (j-1) 0):=by rw [List.getD_eq_getElem?_getD,List.getElem?_eq_getElem (by omega)];rfl
     rw [h4] at h3
     have h6:=(hks (j-1) _ h5).1 (hwl _ h3)
     omega
   ·omega
  have hne:∀ j,j<m→listed.getD j false=true→t≠ds.getD j 0:=fun j hj hlj e=>by
   have h1:ds[j]? = some t:=by rw [e,List.getD_eq_getElem?_getD,List.getElem?_eq_getElem (by rw [ok.len];exact hj)];rfl
   have:=ds_inj ok.nodup h1 ht
   subst this;rw [huf] at hlj;cases hlj
  have hgiv:∀ v,given ch ds k (upd x (some t) v)=given ch ds k x:=fun v=>by
   unfold given
   apply List.map_congr_left
   intro q hq
   obtain ⟨j,hj,e⟩:=List.getElem_of_mem hq
   rw [List.length_take] at hj
   rw [List.getElem_take] at e
   have hq':ch[j]? = some q:=by rw [List.getElem?_eq_getElem (by omega),e]
   exact upd_ne (hne q (hchn hq').1 ((hks j q hq').2 (by omega)))
  refine hst x w k hk hC (fun j c hj hc=>?_) hkj K fun v w' b hg hb=>hK v w' b ?_ hb
  ·have hjw:=List.contains_iff_mem.1 hj
   exact hI.con j c (Nat.lt_trans (ok.topo i him j hjw) him) (hwl j hjw) hc
  unfold CGood at hg
  have hself:upd x (some t) v (ds.getD i 0)=v:=by rw [hdsg ht];exact upd_self _ _ _
  refine ⟨fun j c hj hlj hc=>?_,?_⟩
  ·rcases getD_set hlj with e|e
   ·subst e;rw [hc] at hg;rw [hself];exact hg.1
   ·rw [upd_ne (hne j hj e)];exact hI.con j c hj e hc
  ·cases hci:cs.getD i none with
   | some c =>
     rw [hci] at hg
     obtain ⟨-,rfl⟩:=hg
     refine ⟨k,hk,fun j q hj=>?_,by rw [hgiv];exact hC⟩
     have hqi:q≠i:=fun e=>by subst e;rw [(hchn hj).2] at hci;cases hci
     rw [←hks j q hj]
     constructor
     ·intro h;rcases getD_set h with e|e
      ·exact absurd e hqi
      ·exact e
     ·exact getD_set_true
   | none =>
     rw [hci] at hg
     have hmem:i∈ch:=by
      rcases hall i him with h|h
      ·rw [hci] at h;simp at h
      ·exact h
     obtain ⟨j0,hj0,e0⟩:=List.getElem_of_mem hmem
     have hj0':ch[j0]? = some i:=by rw [List.getElem?_eq_getElem hj0,e0]
     have:=hkj j0 hj0'
     subst this
     refine ⟨k+1,by omega,fun j q hj=>?_,?_⟩
     ·constructor
      ·intro h;rcases getD_set h with e|e
       ·rw [e] at hj;have:=hinj hj hj0';omega
       ·have:=(hks j q hj).1 e;omega
      ·intro h
       by_cases hjk:j=k
       ·subst hjk;rw [hj0'] at hj;injection hj with hj;subst hj
        simp [hil]
       ·exact getD_set_true ((hks j q hj).2 (by omega))
     ·have e1:given ch ds (k+1) (upd x (some t) v)=given ch ds k x ++ [v]:=by
       rw [←hgiv v]
       unfold given
       rw [List.take_add_one,hj0',List.map_append]
       simp only [Option.toList_some,List.map_cons,List.map_nil]
       rw [hself]
      rw [e1];exact hg
 refine wp_region_any hm (inv_go ok hF (CInv m ds cs ch C) step (fun x w hI=>?_) m _ _ (fun _=>undef) a0 _ (by simp) ?_ (by omega) (fun k _ hk=>?_) (fun i _ h=>?_) ⟨fun i c _ h=>?_,0,Nat.zero_le _,fun j i hj=>?_,h0⟩ (Filled.start _ _ _ _ _))
 ·have hall':∀ i,i<m→(Array.replicate m true ++ Array.replicate (l.toArray.size-m) false).getD i false=true:=fun i hi=>by
   simp [Array.getElem?_append,hi]
  rw [hsz] at hall' ⊢
  obtain ⟨k,hk,hks,hC⟩:=hI.link
  have hkl:k=ch.length:=by
   rcases Nat.lt_or_ge k ch.length with h|h
   ·have h1:ch[k]? = some ch[k]:=List.getElem?_eq_getElem h
    have:=(hks k _ h1).1 (by rw [hsz];exact hall' _ (hchn h1).1)
    omega
   ·omega
  subst hkl
  exact fin x w (fun i c hi hc=>hI.con i c hi (by rw [hsz];exact hall' i hi) hc) hC
 ·simp [Array.toList_replicate]
 ·simp [Array.getElem?_replicate];split<;>simp_all
 ·exfalso
  simp [Array.getElem?_replicate] at h
  split at h<;>simp at h
 ·exfalso
  simp [Array.getElem?_replicate] at h
  split at h<;>simp at h
 ·constructor
  ·intro h
   exfalso
   simp [Array.getElem?_replicate] at h
   split at h<;>simp at h
  ·intro h;omega
end
end Go.Proofs.YtkljafmdbajfeaaGreatDoor
