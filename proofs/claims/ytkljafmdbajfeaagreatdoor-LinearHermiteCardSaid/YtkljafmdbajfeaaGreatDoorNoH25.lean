/- linear.ints: vectors as rows of ints. -/
import Derived.Test.YtkljafmdbajfeaaGreatDoorNoH07
import Derived.Test.YtkljafmdbajfeaaGreatDoorNoH19
import Derived.Test.YtkljafmdbajfeaaGreatDoorNoH24
namespace Go.Proofs.YtkljafmdbajfeaaGreatDoor
set_option linter.unusedVariables false
set_option linter.unusedSimpArgs false
open Go.Lib (hid)
section
open Go.RowKit Go.ChangeMaps
open Lp (V)
theorem infoRow:(Tryz.prog.info? 23).map (fun i=>(i.zero,i.size,i.bytes))=some (some (.slice none 0 0),1,24):=by kernel_rfl
structure GRow (w:World) (base:Nat) (v:Value) (i n:Nat) (fs:List V):Prop where
 ex:∃ gs:List Nat,gs.length=i∧w.ownsRow base 23 1 v i (gs.map fun g=>.slice (some ⟨g,0,none⟩) n n)∧OwnC isSl w v∧∀ j,∀ hj:j<gs.length,∃ hf:j<fs.length,base≤gs[j]∧IBlk w gs[j] (intsTo fs[j] n n)
theorem GRow.ext {w w':World} {base i n:Nat} {v:Value} {fs:List V} (h:GRow w base v i n fs) (hb:Below w.heap.size w w'):GRow w' base v i n fs:=by
 obtain ⟨gs,h1,h2,h4,h3⟩:=h.ex
 exact ⟨gs,h1,own_ext h2 hb,h4.ext h2 hb,fun j hj=>by obtain ⟨hf,h,k⟩:=h3 j hj;exact ⟨hf,h,Blk.ext k hb⟩⟩
theorem GRow.grid {w:World} {base n:Nat} {v:Value} {fs:List V} (h:GRow w base v fs.length n fs):∃ A c,v=.slice A fs.length c∧fs.length≤c∧c≤maxLen∧Grid w A (fs.map fun f=>intsTo f n n):=by
 obtain ⟨gs,h1,h2,-,h3⟩:=h.ex
 obtain ⟨-,h4⟩:=id h2
 rcases h4 with ⟨rfl,h0⟩|⟨g,cap,cur,rfl,hg,hh,h5,h6,_⟩
 ·exact ⟨none,0,by rw [h0],by omega,Nat.zero_le _,fun i hi=>by simp at hi;omega⟩
 ·refine ⟨_,cap,rfl,h5,h6,fun j hj=>?_⟩
  have hj':j<fs.length:=by simpa using hj
  obtain ⟨hf,-,hI⟩:=h3 j (by omega)
  have e:nrow (fs.map fun f=>intsTo f n n) j=intsTo fs[j] n n:=by rw [nrow_lt hj];simp
  refine ⟨g,0,some ⟨gs[j]'(by omega),0,none⟩,n,rfl,?_,by rw [e,intsTo_len];exact Nat.le_refl _,by rw [e];exact hI.ints⟩
  rw [Nat.zero_add,h2.cellAt j (by omega),e,intsTo_len]
  simp [h1,hj']
theorem IBlk.grown {w w':World} {v:Value} {g:Nat} {xs:List Int} (h:IBlk w g xs) (h0:0<xs.length) (hq:OwnC isSl w v) (hg:w.grownBy w' v.ownBlock):IBlk w' g xs:=by
 have hb:w'.heap[g]? = w.heap[g]? := hg.block g h.lt (fun e=>by
  have:=hq g e.symm 0 _ (h.cell 0 h0)
  obtain ⟨A,n,c,e2⟩:=this;cases e2)
 exact hb.trans h
theorem GRow.push {w w':World} {base i n g:Nat} {v v':Value} {fs:List V} {gs:List Nat} (h0:0<n) (h1:gs.length=i) (h4:OwnC isSl w v) (h3:∀ j,∀ hj:j<gs.length,∃ hf:j<fs.length,base≤gs[j]∧IBlk w gs[j] (intsTo fs[j] n n)) (hi:i<fs.length) (hb:base≤g) (hx:IBlk w g (intsTo fs[i] n n))
 (ho:w'.ownsRow base 23 1 v' (i+1) ((gs.map fun g=>Value.slice (some ⟨g,0,none⟩) n n) ++ [.slice (some ⟨g,0,none⟩) n n])) (hg:w.grownBy w' v.ownBlock) (hc:OwnC isSl w' v'):GRow w' base v' (i+1) n fs:=by
 refine ⟨gs ++ [g],by simp [h1],by simpa using ho,hc,fun j hj=>?_⟩
 have hjl:j<fs.length:=by simp at hj;omega
 refine ⟨hjl,?_⟩
 rw [List.getElem_append]
 split
 ·rename_i h;obtain ⟨hf,h6,h5⟩:=h3 j h;exact ⟨h6,h5.grown (by rw [intsTo_len];exact h0) h4 hg⟩
 ·rename_i h
  have:j=i:=by simp at hj;omega
  subst this
  simp only [h1,Nat.sub_self,List.getElem_cons_zero]
  exact ⟨hb,hx.grown (by rw [intsTo_len];exact h0) h4 hg⟩
set_option maxRecDepth 100000 in
set_option maxHeartbeats 2000000 in
theorem ints_calls (A:Option Addr) (c n:Nat) (fs:List V) (w:World) (h:VecsP w A n fs) (hl:fs.length≤1000) (h0:0<n) (hn:n≤1000) :
 Calls Tryz.prog 81 #[.slice A fs.length c] w fun e w'=>∃ v,e=.returned v∧GRow w' w.heap.size v fs.length n fs∧Below w.heap.size w w':=by
 obtain ⟨i0,hi0,hz0,hz1,hz2⟩:=info_parts infoRow
 have HH:=hid h
 clear h
 go_enter Tryz.func81,Tryz.ntmps81
 go_wp2
 go_loopw [3,8] (fun tv ti wr=>∃ (i:Nat),i≤fs.length∧ti=.int .i64 i∧Hid (GRow wr w.heap.size tv i n fs)∧Hid (Below w.heap.size w wr)) (fun _ ti _=>fs.length-(intOf ti).toNat)
 case atStart=>exact ⟨0,Nat.zero_le _,rfl,hid ⟨[],rfl,World.ownsRow_nil _ _ _ _,OwnC.nil _ _ _ _,fun j hj=>by simp at hj⟩,hid (Below.refl _ _)⟩
 case round =>
  obtain ⟨i,hi,rfl,hP,hbe⟩:=hrel
  by_cases hlt:i<fs.length
  ·have hn1:(i:Int)<fs.length:=by omega
   obtain ⟨b,o,u,rfl,hc,hv⟩:=(HH.out.ext hbe.out) i hlt
   have HIN:=hid (vecInts_calls n fs[i] u wr hv hn)
   obtain ⟨gs0,-,hq2,-⟩:=hP.out.ex
   obtain ⟨A3,c3,rfl,hc3,hc4⟩:=own_size hq2
   clear hv hq2
   go_wp2_with fail
   refine HIN.out.mono ?_;rintro e w2 ⟨g,rfl,hg,hI,hb2⟩
   have hA:Below w2.heap.size w2 (w2.alloc (.cells #[.slice (some ⟨g,0,none⟩) n n] 23 (0,0))):=(Below.refl _ _).alloc (Nat.le_refl _) _
   have hB:=Blk.new w2 [.slice (some ⟨g,0,none⟩) n n] 23
   have hP2:=(hP.out.ext hb2).ext hA
   obtain ⟨gs,hps1,hps2,hps4,hps3⟩:=hP2.ex
   have HO1:=hid hps2;have HC1:=hid hps4;have HBL:=hid hB;have HA:=hid hA;have H3:=hid hps3;have HX:Hid (IBlk _ g _):=hid (Blk.ext hI hA);have HB2:=hid hb2
   have hsz:=hbe.out.size
   have hsz2:=hb2.size
   clear hP2 hps2 hps3 hps4 hB hA hI hb2 HIN
   go_wp2_with (at_builtin;refine wpList_append_all isSl rfl _ _ 22 rfl w.heap.size 23 i0 (.slice none 0 0) 24 Tryz.underlying22 hi0 hz0 hz1 hz2 rfl ⟨_,_,_,rfl⟩ _ _ _ rfl HO1.out HC1.out ⟨w2.heap.size,0,none⟩ 1 1 [.slice (some ⟨g,0,none⟩) n n] rfl ?qc1 ?qc2 ?qc3 ?qc7 ?qc8 ?qc4 ?qc5 ?qc6 ?_)
   case qc1=>rfl
   case qc2 =>
    intro j u hj
    cases j with
    | zero=>simp at hj;subst hj;exact HBL.out.cell 0 (by simp)
    | succ j=>simp at hj
   case qc3=>intro u hu;simp at hu;subst hu;rfl
   case qc7=>intro u hu;simp at hu;subst hu;exact ⟨_,_,_,rfl⟩
   case qc8=>omega
   case qc4=>unfold maxLen;omega
   case qc5=>omega
   case qc6=>exact Nat.le_trans (by omega:w.heap.size≤w2.heap.size) HA.out.size
   intro v' w3 hown' hgrow hoc
   have hb23:Below w.heap.size w2 w3:=((HA.out.mono (by omega)).grown hgrow (Nat.le_trans (by omega:w.heap.size≤w2.heap.size) HA.out.size) (own_block HO1.out))
   have hP3:GRow w3 w.heap.size v' (i+1) n fs:=GRow.push h0 hps1 HC1.out H3.out hlt (by omega) HX.out hown' hgrow hoc
   have HP3:=hid hP3;have HB3:=hid ((hbe.out.trans (HB2.out.mono hsz)).trans hb23)
   clear hown' hgrow hoc hP3 hb23 HO1
   go_wp2
   go_roundw
   case rel=>exact ⟨i+1,by omega,by go_num,HP3,HB3⟩
   case measure=>simp [intOf];omega
  ·obtain rfl:i=fs.length:=by omega
   go_wp2
   go_ret
   exact ⟨_,rfl,hP.out,hbe.out⟩
end
section
open Go.RowKit Go.ChangeMaps
open Lp (Lt V Ech BdV Bd pivots lv cnt Gen From)
theorem rowsOk_in {l:List (List Int)} {n:Nat} (h:rowsOk l n=true):1≤n∧n≤6∧l.length≤6∧(∀ r∈l,r.length=n)∧∀ r∈l,∀ x∈r,-30≤x∧x≤30:=by
 unfold rowsOk rowOk listOk inB at h
 simp only [Bool.and_eq_true,decide_eq_true_eq,List.all_eq_true] at h
 obtain ⟨⟨⟨h1,h2⟩,h3⟩,h4⟩:=h
 exact ⟨h1,h2,h3,fun r hr=>(h4 r hr).1,fun r hr x hx=>(h4 r hr).2 x hx⟩
theorem nth_bd {r:List Int} {X:Nat} (h:∀ x∈r,-(X:Int)≤x∧x≤X):BdV X (nth r):=fun i=>by
 rcases Nat.lt_or_ge i r.length with h1|h1
 ·have:=h _ (nth_mem h1);omega
 ·rw [nth_beyond h1];simp
theorem tri_six {m:Nat} (h:m≤6):tri m+m≤21:=by
 have:=tri_mono h
 have e:tri 6=15:=rfl
 omega
theorem wide_21 {k:Nat} (hk:k≤21) {z:Int} (hz:z.natAbs≤lv 30 k):Wide z :=
 wide_of_lv (by omega) (by omega) (Nat.le_trans (Nat.pow_le_pow_right (by omega) hk) (by omega)) hz
theorem own_low {w:World} {base base' size n:Nat} {e:TypeId} {v:Value} {xs:List Value} (h:w.ownsRow base e size v n xs) (hb:base'≤base):w.ownsRow base' e size v n xs:=by
 refine ⟨h.1,?_⟩
 rcases h.2 with h0|⟨g,cap,cur,rfl,hg,h3⟩
 ·exact .inl h0
 ·exact .inr ⟨g,cap,cur,rfl,Nat.le_trans hb hg,h3⟩
theorem GRow.low {w:World} {base base' i n:Nat} {v:Value} {fs:List V} (h:GRow w base v i n fs) (hb:base'≤base):GRow w base' v i n fs:=by
 obtain ⟨gs,k1,k2,k3,k4⟩:=h.ex
 exact ⟨gs,k1,own_low k2 hb,k3,fun j hj=>by obtain ⟨hf,h5,h6⟩:=k4 j hj;exact ⟨hf,Nat.le_trans hb h5,h6⟩⟩
structure HermiteV (w w':World) (v:Value) (l:List (List Int)) (n:Nat) (rows:Lt):Prop where
 grid:GRow w' w.heap.size v (rowsOf rows n).length n (rowsOf rows n)
 ech:Ech n rows
 red:Lp.Red rows
 gen:∀ x,Gen (From rows 0) x↔Gen (·∈l.map nth) x
 cnt:cnt rows n≤l.length
 below:Below w.heap.size w w'
set_option maxRecDepth 100000 in
set_option maxHeartbeats 2000000 in
theorem hermite_bad (A:Option Addr) (c n:Nat) (l:List (List Int)) (w:World) (h:Grid w A l) (hl:l.length≤maxLen) (hn:n≤maxLen) (hr:∀ r∈l,r.length≤maxLen) (hok:rowsOk l n=false) :
 Calls Tryz.prog 31 #[.slice A l.length c,.int .i64 n] w fun e w'=>e=.returned (.tuple #[.slice none 0 0,.int .i64 2])∧Below w.heap.size w w':=by
 have HRW:=hid (rowed_calls A c l n w hl hr hn h)
 go_enter Tryz.func31,Tryz.ntmps31
 go_wp2_with fail
 refine HRW.out.mono ?_;rw [hok];rintro e w1 ⟨rfl,hb1⟩
 go_wp2
 go_ret2
 exact ⟨rfl,hb1⟩
set_option maxRecDepth 100000 in
set_option maxHeartbeats 2000000 in
theorem hermite_good (A:Option Addr) (c n:Nat) (l:List (List Int)) (w:World) (h:Grid w A l) (hok:rowsOk l n=true) :
 Calls Tryz.prog 31 #[.slice A l.length c,.int .i64 n] w fun e w'=>∃ v rows,e=.returned (.tuple #[v,.int .i64 0])∧HermiteV w w' v l n rows:=by
 obtain ⟨h1,h6,hl6,hrow,hx⟩:=rowsOk_in hok
 have HRW:=hid (rowed_calls A c l n w (by unfold maxLen;omega) (fun r hr=>by rw [hrow r hr];unfold maxLen;omega) (by unfold maxLen;omega) h)
 have HG:=hid h
 have HROW:Hid (∀ r∈l,r.length=n):=hid hrow
 have HX:Hid (∀ r∈l,∀ x∈r,-30≤x∧x≤30):=hid hx
 clear h hrow hx
 go_enter Tryz.func31,Tryz.ntmps31
 go_wp2_with fail
 refine HRW.out.mono ?_;rw [hok];rintro e w1 ⟨rfl,hb1⟩
 have HV:=hid (vectors_calls A c n l w1 (HG.out.ext hb1) (by omega) (by omega) HROW.out (fun r hr x hx=>by have:=HX.out r hr x hx;omega))
 have HB1:=hid hb1
 clear hb1 HRW
 go_wp2_with fail
 refine HV.out.mono ?_;rintro e w2 ⟨A2,c2,rfl,hvs,hb2⟩
 have hlat:=lat_calls n 30 (l.map nth) A2 c2 w2 hvs (by omega) (by omega) (by simp;omega) (fun f hf i hi=>by
  obtain ⟨r,hr,rfl⟩:=List.mem_map.1 hf
  exact nth_beyond (by rw [HROW.out r hr];exact hi)) (fun f hf=>by
  obtain ⟨r,hr,rfl⟩:=List.mem_map.1 hf
  exact nth_bd (fun x hx=>HX.out r hr x hx)) (by omega) (fun z hz=>wide_21 (by rw [List.length_map];exact tri_six hl6) hz)
 rw [List.length_map] at hlat
 have HLAT:=hid hlat
 have HB2:=hid (HB1.out.trans (hb2.mono HB1.out.size))
 clear hlat hvs hb2 HV HB1
 go_wp2_with fail
 refine HLAT.out.mono ?_;rintro e w3 ⟨L,M,rows,rfl,hL,hM,hl3,hE,hR,hgen,hcnt,-,hb3⟩
 have HR:=hid (rows_calls L M n rows w3 hl3 (by omega) (by omega))
 have HB3:=hid (HB2.out.trans (hb3.mono HB2.out.size))
 have HE:=hid hE;have HRED:=hid hR;have HGEN:=hid hgen
 have hle:(rowsOf rows n).length≤1000:=by rw [rowsOf_len];have:=pivots_le rows n;omega
 clear hl3 hb3 hE hR hgen HLAT HB2 hL hM
 go_wp2_with fail
 refine HR.out.mono ?_;rintro e w4 ⟨A4,c4,rfl,hvs4,hb4⟩
 have HI:=hid (ints_calls A4 c4 n (rowsOf rows n) w4 hvs4 hle (by omega) (by omega))
 have HB4:=hid (HB3.out.trans (hb4.mono HB3.out.size))
 clear hvs4 hb4 HR HB3
 go_wp2_with fail
 refine HI.out.mono ?_;rintro e w5 ⟨v,rfl,hg,hb5⟩
 have HG5:=hid hg;have HB5:=hid hb5
 clear hg hb5 HI
 go_wp2
 go_ret2
 refine ⟨v,rows,rfl,HG5.out.low HB4.out.size,HE.out,HRED.out,HGEN.out,hcnt,HB4.out.trans (HB5.out.mono HB4.out.size)⟩
end
section
open Go.RowKit Go.ChangeMaps
open Lp (Lt V Ech BdV Bd pivots lv cnt Gen From Least)
structure RedAt (n B:Nat) (rows:Lt) (f0:V) (P:Nat) (f:V):Prop where
 red:∀ p r,p<P→rows p=some r→0≤f p∧f p<r p
 gen:Gen (From rows 0) fun i=>f0 i-f i
 bd:BdV (lv B (cnt rows P)) f
 high:∀ i,n≤i→f i=0
theorem RedAt.start {n B:Nat} {rows:Lt} {f:V} (hb:BdV B f) (hh:∀ i,n≤i→f i=0):RedAt n B rows f 0 f :=
 ⟨fun p r h=>by omega,Gen.zero.cast fun i=>by omega,hb,hh⟩
theorem RedAt.step {n B P p:Nat} {rows:Lt} {f0 f r:V} (h:RedAt n B rows f0 P f) (hE:Ech n rows) (hB:0<B) (hbd:Bd B rows) (hP:P≤p) (hno:∀ q,P≤q→q<p→rows q=none) (hr:rows p=some r) :
 RedAt n B rows f0 (p+1) (fun i=>f i + -(f p / r p)*r i):=by
 have hrp:=hE.pos p r hr
 have hm:f p + -(f p / r p)*r p=f p % r p:=by
  have:=Int.emod_add_mul_ediv (f p) (r p)
  have h2 : -(f p / r p)*r p = -(r p*(f p / r p)):=by rw [Int.neg_mul,Int.mul_comm]
  rw [h2];omega
 have hc:cnt rows (p+1)=cnt rows p+1:=by simp only [cnt];rw [hr];rfl
 have hmono:lv B (cnt rows P)≤lv B (cnt rows p):=Lp.lv_mono hB (Lp.cnt_mono _ hP)
 refine ⟨fun q s hq hs=>?_,?_,fun i=>?_,fun i hi=>?_⟩
 ·rcases Nat.lt_or_ge q p with h1|h1
  ·have hr0:=hE.low p r hr q h1
   show 0≤f q + -(f p / r p)*r q∧f q + -(f p / r p)*r q<s q
   rw [hr0]
   rcases Nat.lt_or_ge q P with h2|h2
   ·simpa using h.red q s h2 hs
   ·rw [hno q h2 h1] at hs;cases hs
  ·have:q=p:=by omega
   subst this
   rw [hr] at hs;cases hs
   show 0≤f q + -(f q / r q)*r q∧f q + -(f q / r q)*r q<r q
   rw [hm];exact ⟨Int.emod_nonneg _ (by omega),Int.emod_lt_of_pos _ hrp⟩
 ·exact (h.gen.addMul (f p / r p) (.one ⟨p,by omega,hr⟩)).cast fun i=>by grind
 ·rw [hc]
  have h1:=quo_bound hrp (Lp.lv_pos hB (cnt rows p)) (Nat.le_trans (h.bd p) hmono) (Nat.le_trans (hbd p r hr i) (Lp.lv_mono hB (Nat.zero_le (cnt rows p))))
  have h2:=Nat.le_trans (h.bd i) hmono
  have h3:(-(f p / r p)*r i).natAbs≤lv B (cnt rows p)*lv B (cnt rows p):=by
   have h4:(-(f p / r p)).natAbs≤lv B (cnt rows p):=by
    have h5:=Nat.le_trans (h.bd p) hmono
    have h6:(f p / r p).natAbs≤(f p).natAbs:=by
     rcases Int.lt_or_le (f p) 0 with h7|h7
     ·have h8:f p≤f p / r p:=Int.le_ediv_of_mul_le hrp (by
       have:f p*r p≤f p*1:=Int.mul_le_mul_of_nonpos_left (by omega) (by omega)
       omega)
      have h9:f p / r p<0:=Int.ediv_neg_of_neg_of_pos h7 hrp
      omega
     ·have h8:f p / r p≤f p:=Int.ediv_le_self (r p) h7
      have h9:0≤f p / r p:=Int.ediv_nonneg h7 (by omega)
      omega
    omega
   exact Lp.mul_abs h4 (Nat.le_trans (hbd p r hr i) (Lp.lv_mono hB (Nat.zero_le (cnt rows p))))
  have h4:lv B (cnt rows p)*1≤lv B (cnt rows p)*lv B (cnt rows p):=Nat.mul_le_mul_left _ (Lp.lv_pos hB _)
  show (f i + -(f p / r p)*r i).natAbs≤3*(lv B (cnt rows p)*lv B (cnt rows p))
  omega
 ·show f i + -(f p / r p)*r i=0
  rw [h.high i hi,hE.high p r hr i hi];simp
theorem Ints.butP {w w':World} {A:Option Addr} {xs:List Int} {g:Nat} (h:Ints w A xs) (hp:Ptrs w g) (hb:But g w w'):Ints w' A xs:=fun i hi=>by
 obtain ⟨b,o,e,hc⟩:=h i hi
 have hne:b≠g:=by rintro rfl;exact hp.no _ _ _ hc
 exact ⟨b,o,e,(World.cell?_of_block (a:=⟨b,o+i,none⟩) (hb.block b (cell_lt hc) hne)).trans hc⟩
set_option maxRecDepth 100000 in
set_option maxHeartbeats 2000000 in
theorem reduce_calls (L M n B:Nat) (rows:Lt) (f:V) (v:Value) (w:World) (h:LatP w L M n rows) (hv:VecP w v n f) (h0:0<n) (hn:n≤1000) (hE:Ech n rows) (hbd:Bd B rows) (hf:BdV B f) (hh:∀ i,n≤i→f i=0) (hB:0<B)
 (hw:∀ z:Int,z.natAbs≤lv B (cnt rows n)→Wide z) :
 Calls Tryz.prog 89 #[.pointer (some ⟨L,0,none⟩),v] w fun e w'=>∃ g c f',e=.returned (.slice (some ⟨g,0,none⟩) n c)∧n≤c∧c≤maxLen∧w.heap.size≤g∧OwnV w' g n n f'∧Least rows f'∧Gen (From rows 0) (fun i=>f i-f' i)∧BdV (lv B (cnt rows n)) f'∧(∀ i,n≤i→f' i=0)∧Below w.heap.size w w':=by
 have hA:Below w.heap.size w (w.alloc (.cells #[] 150 (0,0))):=(Below.refl _ _).alloc (Nat.le_refl _) _
 have HV:=hid (hv.ext hA);have HA:=hid hA
 have HL:=hid h
 have HST:=hid (RedAt.start (n:=n) (rows:=rows) hf hh)
 have HE:=hid hE;have HBD:=hid hbd
 clear h hv hA hE hbd hf hh
 go_enter Tryz.func89,Tryz.ntmps89
 go_wp2_with (at_builtin;refine wpList_copy rfl _ _ rfl rfl _ n f v rfl rfl HV.out h0 hn ?_)
 intro c2 w2 hc1 hc2 hO hb2
 have hb12:=HA.out.trans (hb2.mono (by omega))
 have HPS:=hid (pivots_calls L M n rows w2 (HL.out.ext hb12) hn)
 have HO:=hid hO;have HB2:=hid hb12
 clear hO hb2 hb12 HV HA
 go_wp2_with fail
 refine HPS.out.mono ?_;rintro e w3 ⟨A,cp,rfl,hcp1,hcp2,hints,hb3⟩
 have HB3:=hid (HB2.out.trans (hb3.mono HB2.out.size));have HI:=hid hints
 have HO3:Hid (OwnV w3 (w.heap.size+1) n n f):=hid (HO.out.ext hb3)
 have hlen:(pivI rows n).length=(pivots rows n).length:=pivI_len rows n
 have hle:=pivots_le rows n
 clear hb3 hints HPS HO HB2
 generalize hN:(pivI rows n).length=N at *
 go_wp2_with fail
 go_loopw [14] (fun ti wr=>∃ (i P:Nat) (f':V),i≤N∧P≤n∧ti=.int .i64 i∧Hid (OwnV wr (w.heap.size+1) n n f')∧Hid (RedAt n B rows f P f')∧Hid (∀ j,∀ hj:j<(pivots rows n).length,(j<i→(pivots rows n)[j]<P)∧(i≤j→P≤(pivots rows n)[j]))∧Hid (Ints wr A (pivI rows n))∧Hid (Below w.heap.size w wr)) (fun ti _=>N-(intOf ti).toNat)
 case atStart=>exact ⟨0,0,f,Nat.zero_le _,Nat.zero_le _,rfl,HO3,HST,hid (fun j hj=>⟨fun h=>by omega,fun _=>Nat.zero_le _⟩),HI,HB3⟩
 case round =>
  clear HO3 HST HI HB3
  obtain ⟨i,P,f',hi,hPn,rfl,hO,hR,hPp,hIn,hbe⟩:=hrel
  by_cases hlt:i<N
  ·have hn1:(i:Int)<N:=by omega
   have hii:i<(pivots rows n).length:=by omega
   obtain ⟨bA,oA,rfl,hcA⟩:=hIn.out i (by omega)
   rw [pivI_nth hii] at hcA
   have hmem:=Lp.mem_pivots.1 (List.getElem_mem hii)
   have hPp1:=(hPp.out i hii).2 (Nat.le_refl _)
   obtain ⟨p,hpe⟩:∃ p,(pivots rows n)[i]=p:=⟨_,rfl⟩
   rw [hpe] at hcA hmem hPp1
   obtain ⟨hpn,hps⟩:=hmem
   obtain ⟨r,hrp⟩:=Option.isSome_iff_exists.1 hps
   have hstep:=hR.out.step HE.out hB HBD.out hPp1 (fun q h1 h2=>Lp.pivots_gap hii (P:=P) (fun j hj hj'=>(hPp.out j hj').1 hj) h1 (by rw [hpe];exact h2)) hrp
   obtain ⟨F,hM,hF⟩:=HL.out.map
   have hFp:∃ v,F p=some v∧VecP w v n r:=by
    rcases hF p hpn with ⟨-,h2⟩|⟨v,x,h1,h2,h3⟩
    ·rw [hrp] at h2;cases h2
    ·rw [hrp] at h2;injection h2 with h2;subst h2;exact ⟨v,h1,h3⟩
   obtain ⟨vp,hFp1,hvp⟩:=hFp
   have hc1r:=(HL.out.ext hbe.out).c1
   have hrpos:=HE.out.pos p r hrp
   have hcp1':cnt rows p+1≤cnt rows n:=by
    have h1:cnt rows (p+1)=cnt rows p+1:=by simp only [cnt];rw [hps];rfl
    have h2:cnt rows (p+1)≤cnt rows n:=Lp.cnt_mono _ (by omega)
    omega
   have hmono:lv B (cnt rows P)≤lv B (cnt rows p):=Lp.lv_mono hB (Lp.cnt_mono _ hPp1)
   have hmono2:lv B (cnt rows p)≤lv B (cnt rows n):=Lp.lv_mono hB (by omega)
   have hbf:BdV (lv B (cnt rows p)) f':=hR.out.bd.mono hmono
   have hbr:BdV (lv B (cnt rows p)) r:=(HBD.out p r hrp).mono (Lp.lv_mono hB (Nat.zero_le _))
   have hdn:=down_calls L M (w.heap.size+1) c2 n p F f' r vp wr hc1r (hM.ext hbe.out) hFp1 hO.out ((hvp.low.ext hbe.out).mono fun b hb=>by omega) hn hpn hrpos
    (fun i _=>hw _ (Nat.le_trans (hbf i) hmono2)) (fun i _=>hw _ (Nat.le_trans (hbr i) hmono2)) (fun i _=>wide_lv hw hB hcp1' (by
      have:=quo_bound hrpos (Lp.lv_pos hB (cnt rows p)) (hbf p) (hbr i)
      simp only [lv];exact this))
   have HDN:=hid hdn;have HSTEP:=hid hstep
   clear hdn hstep hM hF hvp hFp1 hbf hbr hmono hmono2 hc1r
   go_wp2_with fail
   refine HDN.out.mono ?_;rintro e w5 ⟨rfl,hO5,hb5⟩
   have HO5:=hid hO5
   have HI5:=hid (hIn.out.butP hO.out.ptrs hb5)
   have HB5:=hid (hbe.out.trans (hb5.below (by omega) hbe.out.size))
   have hsucc:∀ j,∀ hj:j<(pivots rows n).length,(j<i+1→(pivots rows n)[j]<p+1)∧(i+1≤j→p+1≤(pivots rows n)[j]):=fun j hj=>by
    refine ⟨fun h=>?_,fun h=>?_⟩
    ·rcases Nat.lt_or_ge j i with h1|h1
     ·have:=Lp.pivots_lt hj hii h1;omega
     ·have:j=i:=by omega
      subst this;omega
    ·have:=Lp.pivots_lt hii hj (by omega);omega
   have HSC:=hid hsucc
   clear hsucc hO5 hb5 HDN
   go_wp2
   go_roundw
   case rel=>exact ⟨i+1,p+1,_,by omega,by omega,by go_num,HO5,HSTEP,HSC,HI5,HB5⟩
   case measure=>simp [intOf];omega
  ·obtain rfl:i=N:=by omega
   go_wp2
   go_ret
   have hR:=hR.out
   refine ⟨_,c2,f',rfl,hc1,hc2,by omega,hO.out,fun p r hr=>?_,hR.gen,hR.bd.mono (Lp.lv_mono hB (Lp.cnt_mono _ hPn)),hR.high,hbe.out⟩
   refine hR.red p r ?_ hr
   rcases Nat.lt_or_ge p P with h1|h1
   ·exact h1
   ·have:=Lp.pivots_end (L:=rows) (n:=n) (P:=P) HE.out.lt (fun j hj=>(hPp.out j hj).1 (by omega)) h1
    rw [hr] at this;cases this
end
section
open Go.RowKit
theorem RatP.butP {w w':World} {p q:Nat} {x:Rat} (h:RatP w q x) (hp:Ptrs w p) (hb:But p w w'):RatP w' q x:=by
 obtain ⟨h1,h2,v,h3,h4⟩:=h
 have hne:=hp.ne h2
 have hs:=hb.block q h2.lt hne
 refine ⟨h1.same hs,h2.butP hp hb,v,(World.cell?_of_block (a:=⟨q,2,none⟩) hs).trans h3,?_⟩
 rcases h4 with h|⟨h5,h⟩
 ·exact .inl (h.butP hp hb)
 ·exact .inr ⟨h5,h.butP hp hb⟩
theorem ratZero (w:World):RatP (w.alloc (.cells #[.bool false,.slice none 0 0,.slice none 0 0] 203 (0,0))) w.heap.size 0:=by
 have hb:=Blk.new w [.bool false,.slice none 0 0,.slice none 0 0] 203
 have hz:∀ w:World,WSl w (.slice none 0 0) 0:=fun w=>⟨none,0,by rw [digits_zero];rfl,by rw [digits_zero];exact Nat.le_refl _,by omega,fun i hi=>by rw [digits_zero] at hi;simp at hi⟩
 exact ⟨RatBlk.new w,⟨(RatBlk.new w).int,_,hb.cell 0 (by simp),hb.cell 1 (by simp),hz _⟩,_,hb.cell 2 (by simp),.inr ⟨rfl,hz _⟩⟩
structure RowQ (w:World) (B b n m:Nat) (P:Nat→Nat) (q:Nat→Rat):Prop where
 ptrs:Ptrs w b
 lt:b<w.heap.size
 new:B≤b
 fr:∀ i,w.frozen? ⟨b,i,none⟩=false
 ex:∀ i,i<n→∃ a,w.cell? ⟨b,i,none⟩=some (.pointer a)
 cell:∀ i,i<m→w.cell? ⟨b,i,none⟩=some (.pointer (some ⟨P i,0,none⟩))
 num:∀ i,i<m→RatP w (P i) (q i)
 low:∀ i,i<m→B≤P i
 inj:∀ i j,i<m→j<m→P i=P j→i=j
theorem RowQ.ext {w w':World} {B b n m:Nat} {P:Nat→Nat} {q:Nat→Rat} (h:RowQ w B b n m P q) (hb:Below w.heap.size w w'):RowQ w' B b n m P q:=by
 have hs:=hb.block b h.lt
 have hc:∀ o,w'.cell? ⟨b,o,none⟩=w.cell? ⟨b,o,none⟩:=fun o=>World.cell?_of_block (a:=⟨b,o,none⟩) hs
 exact ⟨h.ptrs.same hs,Nat.lt_of_lt_of_le h.lt hb.size,h.new,fun i=>(World.frozen?_of_block (a:=⟨b,i,none⟩) hs).trans (h.fr i),fun i hi=>by rw [hc];exact h.ex i hi,fun i hi=>by rw [hc];exact h.cell i hi,fun i hi=>(h.num i hi).ext hb,h.low,h.inj⟩
theorem RowQ.congr {w:World} {B b n m:Nat} {P:Nat→Nat} {q r:Nat→Rat} (h:RowQ w B b n m P q) (e:∀ i,i<m→q i=r i):RowQ w B b n m P r :=
 { h with num:=fun i hi=>by rw [←e i hi];exact h.num i hi }
theorem RowQ.ne {w:World} {B b n m p:Nat} {P:Nat→Nat} {q:Nat→Rat} (h:RowQ w B b n m P q) (hp:IntBlk w p):b≠p:=by
 rintro rfl
 obtain ⟨x,A,k,c,h0,-⟩:=hp.c
 obtain ⟨a,e⟩:=h.ptrs _ _ h0;cases e
theorem RowQ.other {w w':World} {B b n m p:Nat} {P:Nat→Nat} {q:Nat→Rat} (h:RowQ w B b n m P q) (hp:RatBlk w p) (hb:But p w w') (hne:∀ i,i<m→P i≠p):RowQ w' B b n m P q:=by
 have hs:=hb.block b h.lt (h.ne hp.int)
 have hc:∀ o,w'.cell? ⟨b,o,none⟩=w.cell? ⟨b,o,none⟩:=fun o=>World.cell?_of_block (a:=⟨b,o,none⟩) hs
 exact ⟨h.ptrs.same hs,Nat.lt_of_lt_of_le h.lt hb.size,h.new,fun i=>(World.frozen?_of_block (a:=⟨b,i,none⟩) hs).trans (h.fr i),fun i hi=>by rw [hc];exact h.ex i hi,fun i hi=>by rw [hc];exact h.cell i hi,fun i hi=>(h.num i hi).but hp.int hb (hne i hi),h.low,h.inj⟩
theorem RowQ.set {w w':World} {B b n m k:Nat} {P:Nat→Nat} {q:Nat→Rat} {x:Rat} (h:RowQ w B b n m P q) (hk:k<m) (hx:RatP w' (P k) x) (hb:But (P k) w w'):RowQ w' B b n m P (fun i=>if i=k then x else q i):=by
 have hp:=(h.num k hk).blk
 have hs:=hb.block b h.lt (h.ne hp.int)
 have hc:∀ o,w'.cell? ⟨b,o,none⟩=w.cell? ⟨b,o,none⟩:=fun o=>World.cell?_of_block (a:=⟨b,o,none⟩) hs
 refine ⟨h.ptrs.same hs,Nat.lt_of_lt_of_le h.lt hb.size,h.new,fun i=>(World.frozen?_of_block (a:=⟨b,i,none⟩) hs).trans (h.fr i),fun i hi=>by rw [hc];exact h.ex i hi,fun i hi=>by rw [hc];exact h.cell i hi,fun i hi=>?_,h.low,h.inj⟩
 by_cases e:i=k
 ·subst e;rw [if_pos rfl];exact hx
 ·rw [if_neg e];exact (h.num i hi).but hp.int hb (fun e2=>e (h.inj i k hi hk e2))
theorem RowQ.put {w:World} {B b n m p:Nat} {P:Nat→Nat} {q:Nat→Rat} (h:RowQ w B b n m P q) (hm:m<n) (hp:RatP w p (q m)) (hB:B≤p) (hne:∀ i,i<m→P i≠p) :
 RowQ (w.setCell ⟨b,m,none⟩ (.pointer (some ⟨p,0,none⟩))) B b n (m+1) (fun i=>if i=m then p else P i) q:=by
 have hb:But b w (w.setCell ⟨b,m,none⟩ (.pointer (some ⟨p,0,none⟩))):=(But.refl b w).set m _
 obtain ⟨a0,h0⟩:=h.ex m hm
 have hsame:=World.cell?_setCell_same w ⟨b,m,none⟩ (.pointer (some ⟨p,0,none⟩)) h0
 have hoth:∀ o,o≠m→(w.setCell ⟨b,m,none⟩ (.pointer (some ⟨p,0,none⟩))).cell? ⟨b,o,none⟩=w.cell? ⟨b,o,none⟩:=fun o ho =>
  World.cell?_setCell_other w ⟨b,m,none⟩ ⟨b,o,none⟩ _ (by intro e;injection e with _ e;exact ho e.symm)
 refine ⟨fun o x e=>?_,Nat.lt_of_lt_of_le h.lt hb.size,h.new,fun j=>?_,fun j hj=>?_,fun j hj=>?_,fun j hj=>?_,fun j hj=>?_,fun i j hi hj e=>?_⟩
 ·by_cases ho:o=m
  ·subst ho;rw [hsame] at e;injection e with e;exact ⟨_,e.symm⟩
  ·rw [hoth o ho] at e;exact h.ptrs o x e
 ·simp only [World.frozen?_setCell];exact h.fr j
 ·by_cases ho:j=m
  ·subst ho;exact ⟨_,hsame⟩
  ·rw [hoth j ho];exact h.ex j hj
 ·by_cases ho:j=m
  ·subst ho;rw [if_pos rfl];exact hsame
  ·rw [if_neg ho,hoth j ho];exact h.cell j (by omega)
 ·by_cases ho:j=m
  ·subst ho;rw [if_pos rfl];exact hp.butP h.ptrs hb
  ·rw [if_neg ho];exact (h.num j (by omega)).butP h.ptrs hb
 ·by_cases ho:j=m
  ·rw [if_pos ho];exact hB
  ·rw [if_neg ho];exact h.low j (by omega)
 ·by_cases hi':i=m<;>by_cases hj':j=m
  ·omega
  ·rw [if_pos hi',if_neg hj'] at e;exact absurd e.symm (hne j (by omega))
  ·rw [if_neg hi',if_pos hj'] at e;exact absurd e (hne i (by omega))
  ·rw [if_neg hi',if_neg hj'] at e;exact h.inj i j (by omega) (by omega) e
theorem infoRatP:(Tryz.prog.info? 201).map (fun i=>(i.zero,i.size,i.bytes))=some (some (.pointer none),1,8):=by kernel_rfl
theorem run_makeRow (w:World) (n:Nat) (h:n≤35184372088832) :
 (Instr.makeSlice 82 (.int .i64 n) (.int .i64 n)).run Tryz.prog w=.ok (.slice (some ⟨w.heap.size,0,none⟩) n n) (w.alloc (.cells (nils n).toArray 201 (0,0))):=by
 obtain ⟨i,hi,hz,hs,hb⟩:=info_parts infoRatP
 rw [run_make w 82 201 i (.pointer none) Tryz.underlying82 hi hz .i64 .i64 n n (by omega) (by omega) (by rw [hb];omega) (by omega)]
 simp only [Int.toNat_natCast,hs,Nat.mul_one]
 rw [madeNils]
theorem RowQ.made (w:World) (n:Nat) (P:Nat→Nat) (q:Nat→Rat):RowQ (w.alloc (.cells (nils n).toArray 201 (0,0))) w.heap.size w.heap.size n 0 P q:=by
 have hb:=Blk.new w (nils n) 201
 refine ⟨fun o x e=>?_,hb.lt,Nat.le_refl _,fun i=>hb.free i,fun i hi=>⟨none,?_⟩,fun i hi=>by omega,fun i hi=>by omega,fun i hi=>by omega,fun i j hi=>by omega⟩
 ·have:=cell_in hb e
  exact ⟨none,List.eq_of_mem_replicate this⟩
 ·have hl:i<(nils n).length:=by unfold nils;simpa using hi
  rw [hb.cell i hl];simp [nils]
end
section
open Go.RowKit
set_option maxRecDepth 100000 in
set_option maxHeartbeats 2000000 in
theorem entries_calls (n:Nat) (w:World) (hn:n≤1000) :
 Calls Tryz.prog 212 #[.int .i64 n] w fun e w'=>∃ b P,e=.returned (.slice (some ⟨b,0,none⟩) n n)∧RowQ w' w.heap.size b n n P (fun _=>0)∧Below w.heap.size w w':=by
 have hmk:=fun w=>run_makeRow w n (by omega)
 have HO:=hid (RowQ.made w n (fun i=>i) (fun _=>0))
 have HA:Hid (Below w.heap.size w (w.alloc (.cells (nils n).toArray 201 (0,0)))):=hid ((Below.refl _ _).alloc (Nat.le_refl _) _)
 go_enter Tryz.func212,Tryz.ntmps212
 go_wp2_with fail
 go_loopw [9] (fun t wr=>∃ (i:Nat) (P:Nat→Nat),i≤n∧t=.int .i64 i∧Hid (RowQ wr w.heap.size w.heap.size n i P (fun _=>0))∧Hid (Below w.heap.size w wr)) (fun t _=>n-(intOf t).toNat)
 case atStart=>exact ⟨0,_,Nat.zero_le _,rfl,HO,HA⟩
 case round =>
  obtain ⟨i,P,hi,rfl,hW,hbe⟩:=hrel
  by_cases hlt:i<n
  ·have hn1:(i:Int)<n:=by omega
   have hA1:Below wr.heap.size wr (wr.alloc (.cells #[.bool false,.slice none 0 0,.slice none 0 0] 203 (0,0))):=(Below.refl _ _).alloc (Nat.le_refl _) _
   have hz:=ratZero wr
   have hW2:=hW.out.ext hA1
   obtain ⟨a5,hc5⟩:=hW2.ex i hlt
   have hf5:=hW2.fr i
   have hsz:=hbe.out.size
   have hput:=hW2.put hlt hz hsz (fun j hj e=>by have:=(hW.out.num j hj).lt;omega)
   have hbl:=hW.out.lt
   have hbb:=(hbe.out.trans (hA1.mono hsz)).setCell (p:=⟨w.heap.size,i,none⟩) (Nat.le_refl _) (.pointer (some ⟨wr.heap.size,0,none⟩))
   rw [World.setCell_alloc_past _ _ _ _ hbl] at hput hbb
   have HP:=hid hput;have HB:=hid hbb
   have hc6:=hc5
   clear hA1 hz hW2 hput hbb
   go_wp2
   go_roundw
   case rel=>exact ⟨i+1,_,by omega,by go_num,HP,HB⟩
   case measure=>simp [intOf];omega
  ·obtain rfl:i=n:=by omega
   go_wp2
   go_ret
   exact ⟨_,P,rfl,hW.out,hbe.out⟩
end
end Go.Proofs.YtkljafmdbajfeaaGreatDoor
