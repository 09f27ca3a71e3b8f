/- The reference's rows: reduced. -/
import Derived.Test.YtkljafmdbajfeaaGreatDoorNoH42
namespace Go.Proofs.YtkljafmdbajfeaaGreatDoor
set_option linter.unusedVariables false
set_option linter.unusedSimpArgs false
open Go.Lib (hid)
section
open Go.RowKit Go.ChangeMaps
theorem calm_bsl (l:List Int):Calm NoBlk fun v w=>BSl w v l:=⟨fun v w w' h hb=>h.ext hb,fun v w w' p h hp hb=>hp.elim⟩
theorem BSl.at {w:World} {A:Option Addr} {n c:Nat} {l:List Int} (h:BSl w (.slice A n c) l):l.length=n∧BigsAt w A l:=by
 obtain ⟨A',c',e,-,-,h4⟩:=h
 injection e with e1 e2 e3
 subst e1
 exact ⟨e2.symm,h4⟩
theorem BSl.num {w:World} {A:Option Addr} {n c j:Nat} {l:List Int} (h:BSl w (.slice A n c) l) (hj:j<n) :
 ∃ b o q L B cq,A=some ⟨b,o,none⟩∧w.cell? ⟨b,o+j*2,none⟩=some (.bool q)∧w.cell? ⟨b,o+j*2+1,none⟩=some (.slice B L cq)∧Hid (RB w (.agg #[.bool q,.slice B L cq]) (nth l j)):=by
 obtain ⟨e,h2⟩:=h.at
 obtain ⟨b,o,q,L,B,cq,h3,k1,k2,k3⟩:=h2 j (by omega)
 exact ⟨b,o,q,L,B,cq,h3,k1,k2,hid k3⟩
theorem less_is {A B:Option Addr} {ca cb n m c:Nat} {la lb:List Int} {vq:Value} {w:World} (hA:BSl w (.slice A n ca) la) (hB:BSl w (.slice B m cb) lb) (hs:StepOk la lb c) (hq:RB w vq (flr (nth la c) (nth lb c))) :
 Calls Tryz.prog 142 #[.slice A n ca,.slice B m cb,vq] w fun e w'=>∃ v,e=.returned v∧BSl w' v (clrR la lb c)∧Below w.heap.size w w':=by
 obtain ⟨hla,hA⟩:=hA.at
 obtain ⟨hlb,hB⟩:=hB.at
 have:=less_calls A B ca cb la lb vq (flr (nth la c) (nth lb c)) w hA hB hs.len hs.max hq hs.fq hs.fa (fun i hi=>hs.fb i (by have:=hs.len;omega)) (fun i hi=>hs.fp i (by have:=hs.len;omega))
 rw [hla,hlb] at this
 exact this.mono fun e w' ⟨v,h1,h2,h3⟩=>⟨v,h1,h2.bsl,h3⟩
set_option maxRecDepth 100000 in
set_option maxHeartbeats 2000000 in
theorem reduced1_calls (A:Option Addr) (c:Nat) (rs:List (List Int)) (vv:Value) (v:List Int) (w:World) (h:RowsAt w A rs) (hv:BSl w vv v) (hl:rs.length≤1000)
 (hp:∀ k,k<rs.length→pivF (nrow rs k)=(pivF (nrow rs k)).toNat∧StepOk (rdTo rs v k) (nrow rs k) (pivF (nrow rs k)).toNat) :
 Calls Tryz.prog 93 #[.slice A rs.length c,vv] w fun e w'=>∃ u,e=.returned u∧BSl w' u (rdTo rs v rs.length)∧Below w.heap.size w w':=by
 have HP:=hid hp;have HV:=hid hv
 clear hp hv
 go_enter Tryz.func93,Tryz.ntmps93
 go_wp2_with fail
 go_loopw [1,5,6] (fun t i _ wr=>∃ k:Nat,k≤rs.length∧i=.int .i64 k∧BSl wr t (rdTo rs v k)∧Below w.heap.size w wr) (fun _ i _ _=>rs.length-(intOf i).toNat)
 case atStart=>exact ⟨0,Nat.zero_le _,rfl,HV.out,Below.refl _ _⟩
 case round =>
  obtain ⟨k,hk,rfl,ht,hbe⟩:=hrel
  have HB:=hid hbe
  by_cases hlt:k<rs.length
  ·have h1:(k:Int)<rs.length:=by omega
   obtain ⟨b1,o1,R,cr,rfl,g1,hr1,hr2,hR⟩:=(h.ext hbe) k hlt
   obtain ⟨hpv,hso⟩:=HP.out k hlt
   obtain ⟨p,hpp⟩:∃ p,(pivF (nrow rs k)).toNat=p:=⟨_,rfl⟩
   rw [hpp] at hpv hso
   have HPV:=hid (pivot1_calls R cr (nrow rs k) wr hR hso.max hso.fb)
   rw [hpv] at HPV
   obtain ⟨la,hla⟩:∃ la,rdTo rs v k=la:=⟨_,rfl⟩
   obtain ⟨lb,hlb⟩:∃ lb,nrow rs k=lb:=⟨_,rfl⟩
   have HNX:Hid (rdTo rs v (k+1)=clrR la lb p):=hid (by rw [rdTo,hla,hlb,←hpp,hlb])
   rw [hla] at ht hso;rw [hlb] at HPV hR hso g1 hr1
   obtain ⟨At,ct,rfl,q1,q2,hT⟩:=ht
   have HS:=hid hso;have HH:=hid h
   have HT:Hid (BSl wr (.slice At la.length ct) la):=hid ⟨_,_,rfl,q1,q2,hT⟩
   have HR:Hid (BSl wr (.slice R lb.length cr) lb):=hid ⟨_,_,rfl,hr1,hr2,hR⟩
   obtain ⟨n1,hn1⟩:∃ n,la.length=n:=⟨_,rfl⟩
   obtain ⟨n2,hn2⟩:∃ n,lb.length=n:=⟨_,rfl⟩
   have hp1:p<n1:=by rw [←hn1];exact hso.ca
   have hp2:p<n2:=by rw [←hn2];exact hso.cb
   rw [hn1] at HT ⊢;rw [hn2] at HR HPV g1
   clear hbe h hR hT hso hpp hpv hla hlb hr1 hr2 q1 q2 hn1 hn2
   go_wp2_with fail
   refine HPV.out.mono ?_;rintro e w1 ⟨rfl,hb1⟩
   have HB1:=hid (HB.out.trans (hb1.mono HB.out.size))
   have HT1:=hid (HT.out.ext hb1);have HR1:=hid (HR.out.ext hb1)
   have k1:=hb1.cell (p:=⟨b1,o1+k,none⟩) (cell_lt g1)
   rw [g1] at k1
   obtain ⟨b2,o2,q2,L2,B2,c2,rfl,g2,g3,hz2⟩:=HT1.out.num hp1
   obtain ⟨b3,o3,q3,L3,B3,c3,rfl,g4,g5,hz3⟩:=HR1.out.num hp2
   have hi1:(p:Int)<n1:=by omega
   have hi2:(p:Int)<n2:=by omega
   have HFL:=hid (fun (W:World) (hk:Below w1.heap.size w1 W)=>rFloor_calls _ _ _ _ W (hz2.out.ext hk) (hz3.out.ext hk) (HS.out.fa p HS.out.ca) (HS.out.fb p HS.out.cb) HS.out.nz)
   have HLS:=hid (fun (W:World) (u:Value) (hk:Below w1.heap.size w1 W) (hu:RB W u _)=>less_is (HT1.out.ext hk) (HR1.out.ext hk) HS.out hu)
   clear hb1 HPV g1 hz2 hz3 HT HR hp1 hp2
   go_wp2_with fail
   refine wp_region_kc (w0:=w1) 18 [18,19,20,21,22,23,24,25,26,27,28,29,30,31,32,33,34,35]
    [.c (.slice (some ⟨b2,o2,none⟩) n1 ct),.c (.slice (some ⟨b1,o1,none⟩) rs.length c),.c (.int .i64 k),.c (.pointer (some ⟨b1,o1+k,none⟩)),.c (.slice (some ⟨b3,o3,none⟩) n2 cr),.c (.slice (some ⟨b2,o2,none⟩) n1 ct),.c (.int .i64 p),.c (.pointer (some ⟨b2,o2+p*2,none⟩)),.c (.agg #[.bool q2,.slice B2 L2 c2]),.c (.slice (some ⟨b1,o1,none⟩) rs.length c),.c (.int .i64 k),.c (.pointer (some ⟨b1,o1+k,none⟩)),.c (.slice (some ⟨b3,o3,none⟩) n2 cr),.c (.int .i64 p),.c (.pointer (some ⟨b3,o3+p*2,none⟩)),.c (.agg #[.bool q3,.slice B3 L3 c3]),.l none (leaf1 · (fun v w=>RB w v (flr (nth la p) (nth lb p)))),.l none (leaf1 · (fun v w=>BSl w v (clrR la lb p)))]
    [] NoBlk (by kernel_rfl) (by kernel_rfl) (by kernel_rfl) rfl (F:=?cFr5) ?r5c1 ?r5c2 ?r5c3 ?r5c4
   case r5c1 =>
    intro x
    simp only [fullC,Act.put,List.setIfInBounds_toArray,List.set_cons_zero,List.set_cons_succ]
    rfl
   case r5c2 =>
    exact ⟨keeps_calm (calm_rb _) _ _ _ _ _,keeps_calm (calm_bsl _) _ _ _ _ _,trivial⟩
   case r5c3 =>
    refine ⟨?_,?_,?_,?_,?_,?_,?_,?_,?_,?_,?_,?_,?_,?_,?_,?_,?_,?_,trivial⟩
    all_goals
     intro xx wq HE hd K hK
     have hc:=(bcell HE).1
     have k1':=(hc _ _ (cell_lt k1)).trans k1
     have g2':=(hc _ _ (cell_lt g2)).trans g2
     have g3':=(hc _ _ (cell_lt g3)).trans g3
     have g4':=(hc _ _ (cell_lt g4)).trans g4
     have g5':=(hc _ _ (cell_lt g5)).trans g5
     try have g16:=hd 16 _ (by decide) rfl
     try have g17:=hd 17 _ (by decide) rfl
     have HE:=hid HE
     have HC:=hid hc
     clear hd hc
     all_goals go_simp
     try (refine hK _ _ _ (mv_const _ rfl) ?_;dsimp only [Act.put];first|done|rfl|(simp [*];done))
    ·refine (HFL.out wq HE.out).mono ?_
     rintro e w3 ⟨v,rfl,h1,h2⟩
     exact hK _ _ _ (mv_plain h2 h1.rb rfl) (by first|(dsimp only [Act.put];done)|(dsimp only [Act.put];first|rfl|(simp [*];done)|(simp [*,ptr];done)))
    ·refine (HLS.out wq _ HE.out g16).mono ?_
     rintro e w3 ⟨v,rfl,h1,h2⟩
     exact hK _ _ _ (mv_plain h2 h1 rfl) (by first|(dsimp only [Act.put];done)|(dsimp only [Act.put];first|rfl|(simp [*];done)|(simp [*,ptr];done)))
   case r5c4 =>
    intro xx wz hE hG hA
    have e5:xx 23=_:=hG 5 _ rfl
    have g16:=hG 16 _ rfl
    have g17:=hG 17 _ rfl
    have HT4:Hid (BSl wz (xx 35) (rdTo rs v (k+1))):=hid (by rw [HNX.out];exact g17)
    have HB4:=hid (HB1.out.trans (hE.mono HB1.out.size))
    obtain ⟨A5,c5,e5,-⟩:=id g17
    rw [e5] at HT4
    clear hG hA hE g16 g17 HFL HLS
    (refine tail_one (i:=18) (by kernel_rfl) rfl ?_;intro K hK;go_simp;refine hK _ _ ?_;clear hK)
    refine wpAny_done (by kernel_rfl) ?_ _
    go_wp2
    go_roundw
    case rel=>exact ⟨k+1,by omega,by go_num,HT4.out,HB4.out⟩
    case measure=>simp [intOf];omega
  ·obtain rfl:k=rs.length:=by omega
   clear hbe h
   go_wp2
   go_ret
   exact ⟨_,rfl,ht,HB.out⟩
end
section
open Go.RowKit Go.ChangeMaps
def zeroB (n:Nat):Array Value:=madeCells (Value.agg #[.bool false,.slice none 0 0]).cells (n*2)
theorem run_makeBigs (w:World) (n:Nat) (h:n≤1000) :
 (Instr.makeSlice 118 (.int .i64 n) (.int .i64 n)).run Tryz.prog w=.ok (.slice (some ⟨w.heap.size,0,none⟩) n n) (w.alloc (.cells (zeroB n) 61 (0,0))):=by
 obtain ⟨i,hi,hz,hs,hb⟩:=info_parts infoBig
 rw [run_make w 118 61 i _ Tryz.underlying118 hi hz .i64 .i64 n n (by omega) (by omega) (by rw [hb];omega) (by omega)]
 simp only [Int.toNat_natCast,hs]
 unfold zeroB
 rfl
theorem zeroB_at {n i:Nat} (h:i<n):(zeroB n)[i*2]? = some (.bool false)∧(zeroB n)[i*2+1]? = some (.slice none 0 0):=by
 have e:(Value.agg #[.bool false,.slice none 0 0]).cells=#[.bool false,.slice none 0 0]:=rfl
 have e0:i*2 % 2=0:=by omega
 have e1:(i*2+1) % 2=1:=by omega
 unfold zeroB madeCells
 rw [e]
 refine ⟨?_,?_⟩
 ·rw [Array.getElem?_map,Array.getElem?_range,if_pos (by omega)]
  show some (#[Value.bool false,.slice none 0 0][i*2 % 2]!)=_
  rw [e0];rfl
 ·rw [Array.getElem?_map,Array.getElem?_range,if_pos (by omega)]
  show some (#[Value.bool false,.slice none 0 0][(i*2+1) % 2]!)=_
  rw [e1];rfl
theorem zeroB_bigs (w:World) (n:Nat):BigsAt (w.alloc (.cells (zeroB n) 61 (0,0))) (some ⟨w.heap.size,0,none⟩) (zeros n):=fun i hi=>by
 have hn:i<n:=by simpa [zeros] using hi
 obtain ⟨h1,h2⟩:=zeroB_at hn
 have hz:nth (zeros n) i=0:=by unfold nth zeros;simp [hn]
 refine ⟨w.heap.size,0,false,0,none,0,rfl,?_,?_,?_⟩
 ·rw [Nat.zero_add,cell_of_row _ w.heap.size (i*2) (zeroB n) _ (0,0) (heap_alloc_new w _)];exact h1
 ·rw [Nat.zero_add,cell_of_row _ w.heap.size (i*2+1) (zeroB n) _ (0,0) (heap_alloc_new w _)];exact h2
 ·rw [hz]
  refine ⟨.slice none 0 0,rfl,none,0,by rw [show (0:Int).natAbs=0 from rfl,T.digits_zero];rfl,by rw [show (0:Int).natAbs=0 from rfl,T.digits_zero];exact Nat.le_refl _,Nat.zero_le _,fun j hj=>?_⟩
  rw [show (0:Int).natAbs=0 from rfl,T.digits_zero] at hj
  simp at hj
end
section
open Go.RowKit Go.ChangeMaps
theorem val_drop {ds:List Nat} {k:Nat} (h:k<ds.length):T.val (ds.drop k)=nthd ds k+10000*T.val (ds.drop (k+1)):=by
 rw [show ds.drop k=nthd ds k :: ds.drop (k+1) from T.drop_nthd h,T.val]
theorem val_drop_le {ds:List Nat}:∀ k,T.val (ds.drop k)≤T.val ds:=by
 intro k
 by_cases h:k≤ds.length
 ·have:=T.val_append (ds.take k) (ds.drop k)
  rw [List.take_append_drop] at this
  rw [this]
  have h1:1≤10000 ^ (ds.take k).length:=Nat.one_le_pow _ _ (by omega)
  have:=Nat.mul_le_mul_right (T.val (ds.drop k)) h1
  omega
 ·rw [List.drop_eq_nil_of_le (by omega)];simp [T.val]
theorem run_fieldD (x y:Value) (w:World):(Instr.field 61 (.agg #[x,y]) 1).run Tryz.prog w=.ok y w:=by
 simp [Instr.field,asAgg,part,go_sem]
set_option maxRecDepth 100000 in
set_option maxHeartbeats 2000000 in
theorem withinB_calls (v:Value) (z m:Int) (w:World) (h1:RB w v z) (l1:Few z) (hm:0≤m) (hm2:m≤4611686018427387904) :
 Calls Tryz.prog 148 #[v,.int .i64 m] w fun e w'=>e=.returned (.tuple #[.int .i64 (if (z.natAbs:Int)≤m then z else 0),.bool (decide ((z.natAbs:Int)≤m))])∧Below w.heap.size w w':=by
 obtain ⟨A,c,rfl,hA⟩:=h1.form
 obtain ⟨q,hq⟩:∃ q,decide (z<0)=q:=⟨_,rfl⟩
 rw [hq]
 obtain ⟨M,rfl⟩:∃ M:Nat,m=M:=⟨m.toNat,by omega⟩
 obtain ⟨Z,hZ⟩:∃ Z,z.natAbs=Z:=⟨_,rfl⟩
 have hlz:(T.digits Z).length≤1000000000000:=by rw [←hZ];exact l1
 rw [hZ] at hA ⊢
 have HLZ:=hid hlz
 have HA:=hid hA;have HQ:=hid hq;have HZ:=hid hZ
 obtain ⟨r1,hr1⟩:∃ r,(if (Z:Int)≤M then z else 0)=r:=⟨_,rfl⟩
 obtain ⟨ok1,hok⟩:∃ b,decide ((Z:Int)≤M)=b:=⟨_,rfl⟩
 rw [hr1,hok]
 have HR1:=hid hr1;have HOK:=hid hok
 clear hr1 hok
 obtain ⟨W,hW⟩:∃ W,w.alloc (.cells #[.bool q,.slice A (T.digits Z).length c] 61 (0,0))=W:=⟨_,rfl⟩
 have HBE:Hid (Below w.heap.size w W):=hid (by rw [←hW];exact (Below.refl _ _).alloc (Nat.le_refl _) _)
 have B0:Blk W w.heap.size [.bool q,.slice A (T.digits Z).length c] 61:=by rw [←hW];exact Blk.new w _ _
 have HB0:=hid B0;have HW:=hid hW
 have HOF:=hid (fun (W:World)=>rOf_calls (M:Int) W ⟨by omega,by omega⟩)
 have HCM:=hid (fun (W2:World) (B:Option Addr) (cb:Nat) (k:Below W.heap.size W W2) (hB:Rds W2 B (T.digits M))=>rcmpD_calls A B c cb Z M W2 (by unfold maxLen;omega) (by
  have h1:=T.digits_len (n:=M) (k:=5) (by omega)
  unfold maxLen;omega) ((HA.out.ext HBE.out).ext k) hB)
 obtain ⟨a0,a1,-,-,-⟩:=Blk.two B0
 clear h1 l1 hA hq hZ hlz hW B0
 by_cases hle:Z≤M
 ·have hsg:decide (0<sgn Z M)=false:=by
   unfold sgn
   rcases Nat.lt_or_ge Z M with h|h
   ·rw [if_pos h];rfl
   ·rw [if_neg (by omega),if_neg (by omega)];rfl
  obtain rfl:z=r1:=by rw [←HR1.out,if_pos (by omega)]
  obtain rfl:true=ok1:=by rw [←HOK.out];exact (decide_eq_true (by omega)).symm
  have HLE:=hid hle
  clear hle
  have hfd:=run_fieldD
  go_enter Tryz.func148,Tryz.ntmps148
  go_wp2_with fail
  rw [HW.out]
  go_region_held3 (fun w'=>w'.cell? ⟨w.heap.size,1,none⟩=some (.slice A (T.digits Z).length c))
   (first|(go_keep;done))
   (first
     | (go_at_call 45;refine (HOF.out W.drew).mono ?_;rintro e w2 ⟨u,rfl,⟨sl,rfl,ho⟩,hb2⟩;rw [Int.natAbs_natCast] at ho;obtain ⟨A2,c2,rfl,-,-,hR2⟩:=ho.rsl;have HE2:=hid (show Below W.heap.size W w2 from ((Below.refl _ W).drew).trans (hb2.mono (Nat.le_refl _)));obtain ⟨-,a1,-,-,-⟩:=Blk.two (Blk.ext HB0.out HE2.out);clear ho hb2)
     | (go_at_call 102;refine (HCM.out w2 A2 c2 HE2.out hR2).mono ?_;rintro e w3 ⟨rfl,kk,rfl⟩;have HE3:=hid (HE2.out.trans ((drewN_below w2 kk).mono HE2.out.size));obtain ⟨-,a1,-,-,-⟩:=Blk.two (Blk.ext HB0.out HE3.out)))
  all_goals
   have HF3:=hid (ext_trans HBE.out HE3.out)
   have HA3:=hid ((HA.out.ext HBE.out).ext HE3.out)
   have B3:=Blk.ext HB0.out HE3.out
   generalize hw3:w2.drewN kk=w3 at *
   clear HE3 HCM HOF HW HB0 HBE HE2 hw3 hR2 a0 a1
   obtain ⟨a0,a1,-,-,-⟩:=Blk.two B3
   clear B3
   have hll:((T.digits Z).length:Int)≤1000000000000:=by have:=HLZ.out;omega
   go_wp2_with fail
   obtain ⟨wo,hwo⟩:∃ wo,wo=w3:=⟨_,rfl⟩
   go_loopw [6,7] (fun n i wr=>∃ k:Nat,k≤(T.digits Z).length∧i=.int .i64 ((k:Int)-1)∧n=.int .i64 (T.val ((T.digits Z).drop k):Nat)∧wr=w3) (fun _ i _=>(intOf i+1).toNat)
   case atStart=>exact ⟨(T.digits Z).length,Nat.le_refl _,rfl,by rw [List.drop_length];rfl,rfl⟩
   case round =>
    obtain ⟨k,hk,rfl,rfl,rfl⟩:=hrel
    cases k with
    | zero =>
      rw [show ((0:Nat):Int)-1 = -1 from rfl,List.drop_zero,T.val_digits]
      have hz1:(Z:Int)≤4611686018427387904:=by have:=HLE.out;omega
      have HSG:=hid (And.intro HQ.out HZ.out)
      clear HR1 HOK HQ HZ hll
      cases q with
      | false =>
        have hzz:Hid (z=Z):=hid (by have h1:=HSG.out.1;have h2:=HSG.out.2;have:=of_decide_eq_false h1;omega)
        go_wp2_with fail
        go_ret2
        exact ⟨by rw [hzz.out];rfl,HF3.out⟩
      | true =>
        have hzz:Hid (z = -(Z:Int)):=hid (by have h1:=HSG.out.1;have h2:=HSG.out.2;have:=of_decide_eq_true h1;omega)
        go_wp2_with fail
        go_ret2
        exact ⟨by rw [hzz.out];rfl,HF3.out⟩
    | succ k =>
      rw [show ((k+1:Nat):Int)-1=k from by omega]
      obtain ⟨b1,o1,rfl,g1⟩:=HA3.out k (by omega)
      have hk0:(0:Int)≤k:=by omega
      have hk1:(k:Int)<(T.digits Z).length:=by omega
      have hvd:T.val ((T.digits Z).drop k)=nthd (T.digits Z) k+10000*T.val ((T.digits Z).drop (k+1)):=val_drop (by omega)
      have hvl:T.val ((T.digits Z).drop k)≤Z:=by
       have:=val_drop_le (ds:=T.digits Z) k
       rw [T.val_digits] at this;exact this
      have hzl:=HLE.out
      have HKL:Hid (k<(T.digits Z).length):=hid (by omega)
      obtain ⟨V,hV⟩:∃ V,T.val ((T.digits Z).drop (k+1))=V:=⟨_,rfl⟩
      obtain ⟨d,hd⟩:∃ d,nthd (T.digits Z) k=d:=⟨_,rfl⟩
      rw [hV,hd] at hvd
      rw [hV]
      rw [hd] at g1
      have hb1:(V:Int)*10000≤4611686018427387904:=by omega
      have hb2:(V:Int)*10000+d≤4611686018427387904:=by omega
      have hb0:0≤(V:Int)*10000:=by omega
      have hb3:0≤(V:Int)*10000+d:=by omega
      have HVD:Hid ((V:Int)*10000+d=(T.val ((T.digits Z).drop k):Nat)):=hid (by omega)
      clear hvd hvl hzl hV hd HR1 HOK hk
      go_wp2_with fail
      go_roundw
      case rel=>exact ⟨k,Nat.le_of_lt HKL.out,by go_num,by rw [←HVD.out],trivial⟩
      case measure=>simp [intOf]<;>omega
 ·have hsg:decide (0<sgn Z M)=true:=by
   rw [sgn_gt (by omega)];rfl
  obtain rfl:r1=0:=by rw [←HR1.out,if_neg (by omega)]
  obtain rfl:ok1=false:=by rw [←HOK.out];exact decide_eq_false (by omega)
  clear hle
  have hfd:=run_fieldD
  go_enter Tryz.func148,Tryz.ntmps148
  go_wp2_with fail
  rw [HW.out]
  go_region_held3 (fun w'=>w'.cell? ⟨w.heap.size,1,none⟩=some (.slice A (T.digits Z).length c))
   (first|(go_keep;done))
   (first
     | (go_at_call 45;refine (HOF.out W.drew).mono ?_;rintro e w2 ⟨u,rfl,⟨sl,rfl,ho⟩,hb2⟩;rw [Int.natAbs_natCast] at ho;obtain ⟨A2,c2,rfl,-,-,hR2⟩:=ho.rsl;have HE2:=hid (show Below W.heap.size W w2 from ((Below.refl _ W).drew).trans (hb2.mono (Nat.le_refl _)));obtain ⟨-,a1,-,-,-⟩:=Blk.two (Blk.ext HB0.out HE2.out);clear ho hb2)
     | (go_at_call 102;refine (HCM.out w2 A2 c2 HE2.out hR2).mono ?_;rintro e w3 ⟨rfl,kk,rfl⟩;have HE3:=hid (HE2.out.trans ((drewN_below w2 kk).mono HE2.out.size));obtain ⟨-,a1,-,-,-⟩:=Blk.two (Blk.ext HB0.out HE3.out)))
  all_goals
   have HF3:=hid (ext_trans HBE.out HE3.out)
   have HA3:=hid ((HA.out.ext HBE.out).ext HE3.out)
   have B3:=Blk.ext HB0.out HE3.out
   generalize hw3:w2.drewN kk=w3 at *
   clear HE3 HCM HOF HW HB0 HBE HE2 hw3 hR2 a0 a1
   go_wp2_with fail
   go_ret2
   exact ⟨rfl,HF3.out⟩
end
section
open Go.RowKit Go.ChangeMaps
def cut62 (z:Int):Int:=if (z.natAbs:Int)≤4611686018427387904 then z else 0
def fit62 (z:Int):Bool:=decide ((z.natAbs:Int)≤4611686018427387904)
def cutTo (l:List Int) (k:Nat):List Int:=(List.range l.length).map fun i=>if i<k then cut62 (nth l i) else 0
theorem cutTo_len (l:List Int) (k:Nat):(cutTo l k).length=l.length:=by simp [cutTo]
theorem cutTo_at (l:List Int) (k i:Nat) (h:i<(cutTo l k).length):(cutTo l k)[i]=if i<k then cut62 (nth l i) else 0:=by simp [cutTo]
theorem cutTo_zero (l:List Int):cutTo l 0=zeros l.length:=by
 unfold cutTo zeros
 refine List.ext_getElem (by simp) fun i h1 h2=>by simp
theorem cutTo_succ (l:List Int) {k:Nat} (h:k<l.length):(cutTo l k).set k (cut62 (nth l k))=cutTo l (k+1):=by
 refine List.ext_getElem (by simp [cutTo]) fun i h1 h2=>?_
 rw [List.getElem_set,cutTo_at,cutTo_at]
 by_cases e:k=i
 ·subst e;rw [if_pos rfl,if_pos (by omega)]
 ·rw [if_neg e]
  by_cases e2:i<k
  ·rw [if_pos e2,if_pos (by omega)]
  ·rw [if_neg e2,if_neg (by omega)]
theorem cutTo_all (l:List Int):cutTo l l.length=l.map cut62:=by
 refine List.ext_getElem (by simp [cutTo]) fun i h1 h2=>?_
 have hi:i<l.length:=by simpa [cutTo] using h1
 rw [cutTo_at,if_pos hi,List.getElem_map,nth_lt hi]
theorem fit_succ (l:List Int) {k:Nat} (h:k<l.length):(l.take (k+1)).all fit62=((l.take k).all fit62 && fit62 (nth l k)):=by
 rw [take_nth h,List.all_append];simp
set_option maxRecDepth 100000 in
set_option maxHeartbeats 1000000 in
theorem intsB_calls (A:Option Addr) (c:Nat) (l:List Int) (w:World) (h:BigsAt w A l) (hl:l.length≤1000) (hf:∀ i,i<l.length→Few (nth l i)) :
 Calls Tryz.prog 92 #[.slice A l.length c] w fun e w'=>e=.returned (.tuple #[.slice (some ⟨w.heap.size,0,none⟩) l.length l.length,.bool (l.all fit62)])∧IBlk w' w.heap.size (l.map cut62)∧Below w.heap.size w w':=by
 have hmk:=fun w=>run_makeInts w l.length (by omega)
 have HF:=hid hf
 clear hf
 go_enter Tryz.func92,Tryz.ntmps92
 go_wp2_with fail
 clear hmk
 go_loopw [5,6,7,8] (fun o i _ _ wr=>∃ k:Nat,k≤l.length∧i=.int .i64 k∧o=.bool ((l.take k).all fit62)∧IBlk wr w.heap.size (cutTo l k)∧Below w.heap.size w wr) (fun _ i _ _ _=>l.length-(intOf i).toNat)
 case atStart=>exact ⟨0,Nat.zero_le _,rfl,rfl,by rw [cutTo_zero];exact Blk.new' _ _ _ _ rfl,(Below.refl _ _).alloc (Nat.le_refl _) _⟩
 case round =>
  obtain ⟨k,hk,rfl,rfl,hob,hbe⟩:=hrel
  have HB:=hid hbe;have HO:=hid hob
  obtain ⟨q0,hq0⟩:∃ q,(l.take k).all fit62=q:=⟨_,rfl⟩
  rw [hq0]
  by_cases hlt:k<l.length
  ·have h1:(k:Int)<l.length:=by omega
   obtain ⟨b1,o1,q,L,B,cb,rfl,g1,g2,hN⟩:=(h.ext hbe) k hlt
   have HW:=hid (withinB_calls _ _ 4611686018427387904 wr hN (HF.out k hlt) (by decide) (by decide))
   obtain ⟨n1,hn1⟩:∃ n,cut62 (nth l k)=n:=⟨_,rfl⟩
   obtain ⟨q1,hq1⟩:∃ q,fit62 (nth l k)=q:=⟨_,rfl⟩
   unfold cut62 at hn1;unfold fit62 at hq1
   rw [hn1,hq1] at HW
   have HN:Hid (cutTo l (k+1)=(cutTo l k).set k n1):=hid (by rw [←cutTo_succ l hlt,←hn1];rfl)
   have HQ:Hid ((l.take (k+1)).all fit62=(q0 && q1)):=hid (by rw [fit_succ l hlt,hq0,←hq1];rfl)
   have HL:=hid hlt
   clear hbe h hob hN hn1 hq1 hq0
   go_wp2_with fail
   refine HW.out.mono ?_;rintro e w1 ⟨rfl,hb1⟩
   have HB1:=hid (HB.out.trans (hb1.mono HB.out.size))
   have hO1:=Blk.ext HO.out hb1
   have bl:=Blk.lt hO1
   have f3:=Blk.free hO1 k
   have c3:=IBlk.cell hO1 k (by rw [cutTo_len];exact hlt)
   have HO1:Hid (IBlk (w1.setCell ⟨w.heap.size,k,none⟩ (.int .i64 n1)) w.heap.size (cutTo l (k+1))):=hid (by rw [HN.out];exact IBlk.set hO1 k n1)
   clear hb1 HW HB HO g1 g2 hO1
   cases q0 with
   | false =>
     go_wp2_with fail
     go_roundw
     case rel=>exact ⟨k+1,by omega,by go_num,by rw [HQ.out];rfl,HO1.out,HB1.out.setCell (Nat.le_refl _) _⟩
     case measure=>simp [intOf];omega
   | true =>
     go_wp2_with fail
     go_roundw
     case rel=>exact ⟨k+1,by omega,by go_num,by rw [HQ.out,Bool.true_and],HO1.out,HB1.out.setCell (Nat.le_refl _) _⟩
     case measure=>simp [intOf];omega
  ·obtain rfl:k=l.length:=by omega
   have HQ:Hid (l.all fit62=q0):=hid (by rw [←hq0,List.take_length])
   clear hbe h hob hq0
   go_wp2
   go_ret2
   exact ⟨by rw [HQ.out];rfl,by have:=HO.out;rw [cutTo_all] at this;exact this,HB.out⟩
end
end Go.Proofs.YtkljafmdbajfeaaGreatDoor
