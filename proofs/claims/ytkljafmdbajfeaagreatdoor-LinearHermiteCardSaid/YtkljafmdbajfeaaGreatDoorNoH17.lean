/- Package big: Int64; the greatest common divisor alone. -/
import Derived.Test.YtkljafmdbajfeaaGreatDoorNoH16
namespace Go.Proofs.YtkljafmdbajfeaaGreatDoor
set_option linter.unusedVariables false
set_option linter.unusedSimpArgs false
open Go.Lib (hid)
section
open Go.RowKit
set_option maxHeartbeats 1000000 in
theorem small_raw (A:Option Addr) (c:Nat) (ds:List Nat) (w:World) (hl:ds.length≤2) (hd:Dig ds) (hA:Wds w A ds) :
 Calls Tryz.prog 178 #[.slice A ds.length c] w fun e w'=>e=.returned (.tuple #[.int .u64 (val ds),.bool true])∧∃ k,w'=w.drewN k:=by
 match ds,hl,hd,hA with
 | [],_,_,_ =>
   go_enter Tryz.func178,Tryz.ntmps178
   go_wp2
   go_ret2
   exact ⟨rfl,0,rfl⟩
 | [n],_,hd,hA =>
   obtain ⟨b,o,rfl,g⟩:=hA 0 (by simp)
   have g':w.cell? ⟨b,o,none⟩=some (.int .u32 n):=g
   have hv:val [n]=n:=by simp [val]
   have hn:n<4294967296:=hd n (by simp)
   rw [hv]
   clear hv g hA hd
   go_enter Tryz.func178,Tryz.ntmps178
   go_wp2
   go_ret2
   exact ⟨rfl,0,rfl⟩
 | [L,H],_,hd,hA =>
   obtain ⟨b,o,rfl,g0⟩:=hA 0 (by simp)
   obtain ⟨b',o',e',g1⟩:=hA 1 (by simp)
   injection e' with e';injection e' with e1 e2;subst e1;subst e2
   have g0':w.cell? ⟨b,o,none⟩=some (.int .u32 (L:Nat)):=g0
   have g1':w.cell? ⟨b,o+1,none⟩=some (.int .u32 (H:Nat)):=g1
   have hH:H<4294967296:=hd H (by simp)
   have hL:L<4294967296:=hd L (by simp)
   have hv:val [L,H]=L+4294967296*H:=by simp [val]
   rw [hv]
   have HN:=hid hv
   clear g0 g1 hA hv hd
   go_enter Tryz.func178,Tryz.ntmps178
   go_wp2_with fail
   go_quiet (fail)
   go_wp2_with fail
   go_ret2
   exact ⟨by rw [or_words H L hH hL];rfl,nq,rfl⟩
theorem val_take2 (n:Nat):val ((digits n).take 2)=n % 18446744073709551616:=by
 have h:=val_append ((digits n).take 2) ((digits n).drop 2)
 rw [List.take_append_drop,val_digits] at h
 have h2:=val_lt ((digits_dig n).take 2)
 by_cases hl:2≤(digits n).length
 ·rw [List.length_take,Nat.min_eq_left hl] at h h2
  generalize val ((digits n).drop 2)=d at *
  generalize val ((digits n).take 2)=t at *
  omega
 ·rw [List.take_of_length_le (by omega)]
  have h3:=digits_small.1 (show (digits n).length≤2 by omega)
  rw [val_digits,Nat.mod_eq_of_lt h3]
theorem i64_pos {z:Int} {T:Nat} (h:z.natAbs % 18446744073709551616=T) (hz:0≤z):wrap64 (T:Int)=IntKind.i64.wrap z:=by
 simp only [wrap64,IntKind.wrap_i64];omega
theorem i64_neg {z:Int} {T:Nat} (h:z.natAbs % 18446744073709551616=T) (hz:z<0):wrap64 (-wrap64 (T:Int))=IntKind.i64.wrap z:=by
 simp only [wrap64,IntKind.wrap_i64];omega
theorem ret_i64 {a b:Int} (h:a=b):Ending.returned (.int .i64 a)=.returned (.int .i64 b):=by rw [h]
set_option maxRecDepth 100000 in
set_option maxHeartbeats 1000000 in
theorem int64_calls (p:Nat) (z:Int) (w:World) (hz:BigP w p z) :
 Calls Tryz.prog 123 #[.pointer (some ⟨p,0,none⟩)] w fun e w'=>e=.returned (.int .i64 (IntKind.i64.wrap z))∧Below w.heap.size w w':=by
 obtain ⟨-,v,hb0,hb1,A,c,rfl,hc,hm,hA⟩:=hz
 have c0:w.cell? ⟨p,0,none⟩=some (.bool (decide (z<0))):=hb0
 have c1:w.cell? ⟨p,1,none⟩=some (.slice A (digits z.natAbs).length c):=hb1
 have hv:=val_take2 z.natAbs
 have hl:((digits z.natAbs).take 2).length=min (digits z.natAbs).length 2:=by rw [List.length_take,Nat.min_comm]
 have hsm:=fun W (hW:Below w.heap.size w W)=>small_raw A c ((digits z.natAbs).take 2) W (by rw [hl];omega) ((digits_dig _).take 2) ((hA.take 2).ext hW)
 rw [hv,hl] at hsm
 have HSM:=hid hsm
 have hlen:(digits z.natAbs).length≤1000000000:=by omega
 clear hsm hv hl hA hb0 hb1
 go_enter Tryz.func123,Tryz.ntmps123
 go_wp2_with fail
 generalize (digits z.natAbs).length=N at *
 obtain ⟨T,hT⟩:∃ T,Hid (z.natAbs % 18446744073709551616=T):=⟨_,rfl⟩
 rw [hT.out] at HSM
 obtain ⟨M,hM⟩:∃ M,Hid (min N 2=M):=⟨_,rfl⟩
 rw [hM.out] at HSM
 have hmc:M≤c:=by (have:=hM.out;omega)
 have hmN:(if (2:Int)<N then 2 else (N:Int))=M:=by (have:=hM.out;split<;>omega)
 have hmc2:(M:Int)≤c:=by omega
 have hmin:(min (N:Int) 2)=(M:Int):=by (have:=hM.out;omega)
 refine wp_region_kc (w0:=w) 17 [6,7,8,9,10,11,12,13,14,15,16,17,5,18,19,3,4]
  [.c (.pointer (some ⟨p,0,none⟩)),.c (.pointer (some ⟨p,0,none⟩)),.c (.pointer (some ⟨p,1,none⟩)),.c (.slice A N c),.c (.pointer (some ⟨p,0,none⟩)),.c (.pointer (some ⟨p,0,none⟩)),.c (.pointer (some ⟨p,1,none⟩)),.c (.slice A N c),.c (.int .i64 N),.c (.int .i64 M),.c (.slice A M c),.c (.tuple #[.int .u64 T,.bool true]),.c (.tuple #[.int .u64 T,.bool true]),.c (.int .u64 T),.c (.bool true),.c (.int .u64 T),.c (.bool true)]
  [] IntBlk (by kernel_rfl) (by kernel_rfl) (by kernel_rfl) rfl (F:=?cFi1) ?i1c1 ?i1c2 ?i1c3 ?i1c4
 case i1c1 =>
  intro x
  simp only [fullC,Act.put,List.setIfInBounds_toArray,List.set_cons_zero,List.set_cons_succ]
  rfl
 case i1c2 =>
  exact trivial
 case i1c3 =>
  refine ⟨?_,?_,?_,?_,?_,?_,?_,?_,?_,?_,?_,?_,?_,?_,?_,?_,?_,trivial⟩
  all_goals
   intro xx wq HE hd K hK
   have hc:=(bcell HE).1
   have c0':=(hc _ _ (cell_lt c0)).trans c0
   have c1':=(hc _ _ (cell_lt c1)).trans c1
   have HE:=hid HE
   have HC:=hid hc
   clear hd hc
   all_goals go_simp
   try (refine hK _ _ _ (mv_const _ rfl) ?_;dsimp only [Act.put];first|done|rfl|(simp [*];done))
  ·refine (HSM.out _ HE.out).mono ?_
   rintro e w2 ⟨rfl,k,rfl⟩
   exact hK _ _ _ (mv_plain (drewN_below _ _) rfl rfl) (by dsimp only [Act.put];first|rfl|(simp [*];done))
 case i1c4 =>
  intro xx wz hE hG hA
  refine wpAny_done (by kernel_rfl) ?_ _
  have HEZ:=hid hE
  have hc:=(bcell hE).1
  have c0':=(hc _ _ (cell_lt c0)).trans c0
  clear hG hE hA hc c1
  cases hz:decide (z<0)
  ·rw [hz] at c0'
   have hzz:0≤z:=by (have:=of_decide_eq_false hz;omega)
   have E1:=hid (i64_pos hT.out hzz)
   clear hz
   go_wp2
   go_ret
   exact ⟨ret_i64 E1.out,HEZ.out⟩
  ·rw [hz] at c0'
   have hzz:z<0:=of_decide_eq_true hz
   have E1:=hid (i64_neg hT.out hzz)
   clear hz
   go_wp2
   go_ret
   exact ⟨ret_i64 E1.out,HEZ.out⟩
end
section
open Go.RowKit
structure RatBlk (w:World) (p:Nat):Prop where
 int:IntBlk w p
 d:∃ A n c,w.cell? ⟨p,2,none⟩=some (.slice A n c)
 f2:w.frozen? ⟨p,2,none⟩=false
theorem RatBlk.lt {w:World} {p:Nat} (h:RatBlk w p):p<w.heap.size:=h.int.lt
theorem RatBlk.same {w w':World} {p:Nat} (h:RatBlk w p) (hb:w'.heap[p]? = w.heap[p]?):RatBlk w' p:=by
 obtain ⟨A,n,c,hd⟩:=h.d
 exact ⟨h.int.same hb,⟨A,n,c,(World.cell?_of_block (a:=⟨p,2,none⟩) hb).trans hd⟩,(World.frozen?_of_block (a:=⟨p,2,none⟩) hb).trans h.f2⟩
theorem RatBlk.ext {w w':World} {p:Nat} (h:RatBlk w p) (hb:Below w.heap.size w w'):RatBlk w' p:=h.same (hb.block p h.lt)
theorem RatBlk.other {w w':World} {p q:Nat} (h:RatBlk w p) (hb:But q w w') (hne:p≠q):RatBlk w' p:=h.same (hb.block p h.lt hne)
theorem RatBlk.new (w:World):RatBlk (w.alloc (.cells #[.bool false,.slice none 0 0,.slice none 0 0] 203 (0,0))) w.heap.size:=by
 have h:=Blk.new w [.bool false,.slice none 0 0,.slice none 0 0] 203
 refine ⟨⟨⟨false,none,0,0,h.cell 0 (by simp),h.cell 1 (by simp)⟩,h.free 0,h.free 1,fun o k n e=>by have:=cell_in h e;simp at this⟩,⟨none,0,0,h.cell 2 (by simp)⟩,h.free 2⟩
def DenW (w:World) (v:Value) (d:Nat):Prop:=WSl w v d∨(d=1∧WSl w v 0)
def RatP (w:World) (p:Nat) (q:Rat):Prop:=RatBlk w p∧BigP w p q.num∧∃ v,w.cell? ⟨p,2,none⟩=some v∧DenW w v q.den
theorem DenW.ext {w w':World} {v:Value} {d:Nat} (h:DenW w v d) (hb:Below w.heap.size w w'):DenW w' v d:=by
 rcases h with h|⟨h1,h2⟩
 ·exact .inl (h.ext hb)
 ·exact .inr ⟨h1,h2.ext hb⟩
theorem DenW.but {w w':World} {v:Value} {d p:Nat} (h:DenW w v d) (hp:IntBlk w p) (hb:But p w w'):DenW w' v d:=by
 rcases h with h|⟨h1,h2⟩
 ·exact .inl (h.but hp hb)
 ·exact .inr ⟨h1,h2.but hp hb⟩
theorem RatP.lt {w:World} {p:Nat} {q:Rat} (h:RatP w p q):p<w.heap.size:=h.1.lt
theorem RatP.blk {w:World} {p:Nat} {q:Rat} (h:RatP w p q):RatBlk w p:=h.1
theorem RatP.ext {w w':World} {p:Nat} {q:Rat} (h:RatP w p q) (hb:Below w.heap.size w w'):RatP w' p q:=by
 have hl:=h.lt
 obtain ⟨h1,h2,v,h3,h4⟩:=h
 exact ⟨h1.ext hb,h2.ext hb,v,(hb.cell (p:=⟨p,2,none⟩) hl).trans h3,h4.ext hb⟩
theorem RatP.but {w w':World} {p r:Nat} {q:Rat} (h:RatP w p q) (hr:IntBlk w r) (hb:But r w w') (hne:p≠r):RatP w' p q:=by
 have hl:=h.lt
 obtain ⟨h1,h2,v,h3,h4⟩:=h
 exact ⟨h1.other hb hne,h2.but hr hb hne,v,(World.cell?_of_block (a:=⟨p,2,none⟩) (hb.block p hl hne)).trans h3,h4.but hr hb⟩
theorem WSl.setCell {w:World} {v:Value} {n p o:Nat} (h:WSl w v n) (hp:IntBlk w p) (x:Value):WSl (w.setCell ⟨p,o,none⟩ x) v n:=h.but hp ((But.refl p w).set o x)
theorem IntBlk.setDen {w:World} {p:Nat} (h:IntBlk w p) (A:Option Addr) (n c:Nat) (hd:∃ v,w.cell? ⟨p,2,none⟩=some v):IntBlk (w.setCell ⟨p,2,none⟩ (.slice A n c)) p:=by
 obtain ⟨b,A0,n0,c0,h0,h1⟩:=h.c
 have e0:∀ o,o≠2→(w.setCell ⟨p,2,none⟩ (.slice A n c)).cell? ⟨p,o,none⟩=w.cell? ⟨p,o,none⟩:=fun o ho=>World.cell?_setCell_other w ⟨p,2,none⟩ ⟨p,o,none⟩ _ (by intro e;injection e with _ e;omega)
 refine ⟨⟨b,A0,n0,c0,(e0 0 (by omega)).trans h0,(e0 1 (by omega)).trans h1⟩,(World.frozen?_setCell _ _ _ _).trans h.f0,(World.frozen?_setCell _ _ _ _).trans h.f1,fun o k m=>?_⟩
 by_cases ho:o=2
 ·subst ho
  obtain ⟨v,hv⟩:=hd
  rw [World.cell?_setCell_same w ⟨p,2,none⟩ _ hv];simp
 ·rw [e0 o ho];exact h.no o k m
theorem RatP.make {w:World} {p:Nat} {z:Int} {v:Value} {d:Nat} {q:Rat} (hb:RatBlk w p) (hz:BigP w p z) (hv:DenW w v d) (hn:q.num=z) (hd:q.den=d):RatP (w.setCell ⟨p,2,none⟩ v) p q:=by
 subst hn;subst hd
 obtain ⟨A0,n0,c0,hd0⟩:=hb.d
 obtain ⟨A,n,c,rfl⟩:∃ A n c,v=.slice A n c:=by
  rcases hv with ⟨A,c,h,-⟩|⟨-,A,c,h,-⟩
  ·exact ⟨_,_,_,h⟩
  ·exact ⟨_,_,_,h⟩
 have e0:∀ o,o≠2→(w.setCell ⟨p,2,none⟩ (.slice A n c)).cell? ⟨p,o,none⟩=w.cell? ⟨p,o,none⟩:=fun o ho=>World.cell?_setCell_other w ⟨p,2,none⟩ ⟨p,o,none⟩ _ (by intro e;injection e with _ e;omega)
 have e2:=World.cell?_setCell_same w ⟨p,2,none⟩ (.slice A n c) hd0
 have hi:=hb.int.setDen A n c ⟨_,hd0⟩
 obtain ⟨-,u,h0,h1,h2⟩:=hz
 refine ⟨⟨hi,⟨A,n,c,e2⟩,(World.frozen?_setCell _ _ _ _).trans hb.f2⟩,⟨hi,u,(e0 0 (by omega)).trans h0,(e0 1 (by omega)).trans h1,h2.setCell hb.int _⟩,_,e2,?_⟩
 rcases hv with h|⟨h3,h4⟩
 ·exact .inl (h.setCell hb.int _)
 ·exact .inr ⟨h3,h4.setCell hb.int _⟩
theorem WSl.one (w:World) (b:Nat) (h:w.heap.size=b):WSl (w.alloc (.cells #[.int .u32 1] 240 (0,0))) (.slice (some ⟨b,0,none⟩) 1 1) 1:=by
 have hd:digits 1=[1]:=by rw [digits_pos (by omega),show 1 / 4294967296=0 by omega,digits_zero]
 have:=wds_new w [1] b h
 exact ⟨some ⟨b,0,none⟩,1,by rw [hd];rfl,by rw [hd];simp,by omega,by rw [hd];exact this⟩
set_option maxRecDepth 100000 in
set_option maxHeartbeats 1000000 in
theorem below_calls (p:Nat) (q:Rat) (w:World) (hq:RatP w p q) :
 Calls Tryz.prog 200 #[.pointer (some ⟨p,0,none⟩)] w fun e w'=>∃ v,e=.returned v∧WSl w' v q.den∧Below w.heap.size w w':=by
 obtain ⟨-,-,v,hv,hd⟩:=hq
 have hnz:=q.den_nz
 rcases hd with hd|⟨h1,hd⟩
 ·obtain ⟨A,c,rfl,-,-,-⟩:=id hd
  have hp:=digits_len_pos.2 hnz
  have e1:(((digits q.den).length:Int) == 0)=false:=by rw [beq_eq_false_iff_ne];omega
  clear hp hnz
  go_enter Tryz.func200,Tryz.ntmps200
  go_wp2
  go_ret
  exact ⟨_,rfl,hd,Below.refl _ _⟩
 ·obtain ⟨A,c,rfl,-,-,-⟩:=id hd
  have e0:(digits 0).length=0:=by rw [digits_zero];rfl
  rw [e0] at hv
  have H1:=hid h1
  clear e0 hnz hd h1
  go_enter Tryz.func200,Tryz.ntmps200
  go_wp2
  go_ret
  exact ⟨_,rfl,by rw [H1.out];exact WSl.one w _ rfl,(Below.refl _ _).alloc (Nat.le_refl _) _⟩
theorem natAbs_ediv_gcd (z:Int) (d:Nat) (hd:0<d):(z / (Nat.gcd d z.natAbs:Int)).natAbs=z.natAbs / Nat.gcd d z.natAbs∧decide (z / (Nat.gcd d z.natAbs:Int)<0)=decide (z<0):=by
 have hg:0<Nat.gcd d z.natAbs:=Nat.gcd_pos_of_pos_left _ hd
 have hdv:(Nat.gcd d z.natAbs:Int) ∣ z:=Int.natAbs_dvd_natAbs.1 (by rw [Int.natAbs_natCast];exact Nat.gcd_dvd_right _ _)
 obtain ⟨k,hk⟩:=hdv
 generalize Nat.gcd d z.natAbs=g at *
 subst hk
 rw [Int.mul_ediv_cancel_left _ (by omega)]
 refine ⟨?_,?_⟩
 ·rw [Int.natAbs_mul,Int.natAbs_natCast,Nat.mul_div_cancel_left _ hg]
 ·rw [decide_eq_decide]
  constructor
  ·intro h;exact Int.mul_neg_of_pos_of_neg (by omega) h
  ·intro h
   refine Classical.byContradiction fun hn=>?_
   have:=Int.mul_nonneg (show (0:Int)≤g by omega) (show 0≤k by omega)
   omega
set_option maxRecDepth 100000 in
set_option maxHeartbeats 2000000 in
theorem ratSet_calls (p:Nat) (x:Bool) (v u:Value) (z:Int) (d:Nat) (w:World) (hp:RatBlk w p) (hv:WSl w v z.natAbs) (hu:WSl w u d) (hd:0<d) (hx:(x && decide (0<z.natAbs))=decide (z<0)) (hl1:(digits z.natAbs).length≤100000000) (hl2:(digits d).length≤100000000) :
 Calls Tryz.prog 198 #[.pointer (some ⟨p,0,none⟩),.bool x,v,u] w fun e w'=>e=.returned (.pointer (some ⟨p,0,none⟩))∧RatP w' p (mkRat z d)∧But p w w':=by
 have hnum:=Rat.num_mkRat z d
 have hden:=Rat.den_mkRat z d
 rw [if_neg (by omega)] at hnum hden
 obtain ⟨k1,k2⟩:=natAbs_ediv_gcd z d hd
 have hcm:=common_calls v u z.natAbs d w hl1 hl2 hv hu
 rw [Nat.gcd_comm] at hcm
 have hg0:0<Nat.gcd d z.natAbs:=Nat.gcd_pos_of_pos_left _ hd
 have hgl:(digits (Nat.gcd d z.natAbs)).length≤100000000:=Nat.le_trans (digits_mono_len (Nat.le_of_dvd hd (Nat.gcd_dvd_left _ _))) hl2
 have hzd:0<z.natAbs / Nat.gcd d z.natAbs↔0<z.natAbs:=by
  constructor
  ·intro h;rcases Nat.eq_zero_or_pos z.natAbs with e|e
   ·rw [e] at h;simp at h
   ·exact e
  ·intro h;exact Nat.div_pos (Nat.le_of_dvd h (Nat.gcd_dvd_right _ _)) hg0
 obtain ⟨g,hg⟩:∃ g,Hid (Nat.gcd d z.natAbs=g):=⟨_,rfl⟩
 rw [hg.out] at hnum hden k1 k2 hcm hg0 hgl hzd
 have HN:=hid hnum;have HD:=hid hden;have HC:=hid hcm;have K1:=hid k1;have K2:=hid k2;have HX:=hid hx;have HZD:=hid hzd
 clear hnum hden hcm k1 k2 hx hzd
 have pl:=hp.lt
 obtain ⟨A,c,rfl,-,-,-⟩:=id hv
 obtain ⟨B,c2,rfl,-,-,-⟩:=id hu
 go_enter Tryz.func198,Tryz.ntmps198
 go_wp2_with fail
 refine HC.out.mono ?_;rintro e w1 ⟨vg,rfl,hvg,hb1⟩
 obtain ⟨G,cg,rfl,-,-,-⟩:=id hvg
 have hA2:Below w1.heap.size w1 (w1.alloc (.cells #[.int .u32 1] 240 (0,0))):=(Below.refl _ _).alloc (Nat.le_refl _) _
 have hone:=WSl.one w1 w1.heap.size rfl
 have hcmp:=compare_q _ _ g 1 (w1.alloc (.cells #[.int .u32 1] 240 (0,0))) 0 (hvg.ext hA2) hone
 have h11:(digits 1).length=1:=by rw [digits_pos (by omega),show 1 / 4294967296=0 by omega,digits_zero];rfl
 have HB1:=hid hb1;have HA2:=hid hA2;have HVG:=hid hvg
 obtain ⟨W2,hW2⟩:∃ W2,Hid (w1.alloc (.cells #[.int .u32 1] 240 (0,0))=W2):=⟨_,rfl⟩
 have HB2:Hid (Below w.heap.size w W2):=hid (by rw [←hW2.out];exact HB1.out.trans (HA2.out.mono HB1.out.size))
 have HVG2:Hid (WSl W2 (.slice G (digits g).length cg) g):=hid (by rw [←hW2.out];exact HVG.out.ext HA2.out)
 have HV:=hid hv;have HU:=hid hu
 clear hb1 hA2 hvg hone hv hu HVG HA2
 by_cases h1:g=1
 ·subst h1
  rw [sgn_eq rfl] at hcmp
  have HCM:=hid hcmp
  have F1:Hid ((mkRat z d).num=z):=hid (by rw [HN.out];exact Int.ediv_one z)
  have F2:Hid ((mkRat z d).den=d):=hid (by rw [HD.out];exact Nat.div_one d)
  clear hcmp h11 HN HD K1 K2 HZD
  go_wp2_with fail
  rw [hW2.out]
  rw [hW2.out] at HCM
  refine HCM.out.mono ?_;rintro e w3 ⟨rfl,k3,e3⟩
  have HB3:Hid (Below w.heap.size w w3):=hid (by rw [e3];exact HB2.out.trans ((drewN_below W2 _).mono HB2.out.size))
  clear e3 HCM
  go_wp2_with fail
  refine (set_t p x _ _ z w3 (hp.int.ext HB3.out) (HV.out.ext HB3.out) rfl HX.out).mono ?_;rintro e w4 ⟨rfl,hz4,hb4,ht4⟩
  have hp4:RatBlk w4 p:=⟨hz4.blk,by obtain ⟨A3,n3,c3,h3⟩:=(hp.ext HB3.out).d;exact ⟨A3,n3,c3,(ht4 2 (by omega)).1.trans h3⟩,(ht4 2 (by omega)).2.trans (hp.ext HB3.out).f2⟩
  have hu4:=(HU.out.ext HB3.out).but (hp.int.ext HB3.out) hb4
  obtain ⟨A5,n5,c5,hd5⟩:=id hp4.d
  have f5:=hp4.f2
  have HU4:=hid hu4;have HZ4:=hid hz4;have HB4:=hid hb4
  clear hu4 hz4 hb4 ht4
  go_wp2
  go_ret
  exact ⟨rfl,RatP.make hp4 HZ4.out (.inl HU4.out) F1.out F2.out,(((But.refl p w).ext HB3.out).trans HB4.out).set 2 _⟩
 ·rw [sgn_gt (show 1<g by omega)] at hcmp
  have HCM:=hid hcmp
  have HDZ:Hid (∀ W,Below w.heap.size w W→WSl W (.slice G (digits g).length cg) g→_):=hid fun W hW h=>divide_calls (.slice A (digits z.natAbs).length c) _ z.natAbs g W hg0 hl1 hgl (HV.out.ext hW) h
  have HDD:Hid (∀ W,Below w.heap.size w W→WSl W (.slice G (digits g).length cg) g→_):=hid fun W hW h=>divide_calls (.slice B (digits d).length c2) _ d g W hg0 hl2 hgl (HU.out.ext hW) h
  clear hcmp h11
  go_wp2_with fail
  rw [hW2.out]
  rw [hW2.out] at HCM
  refine HCM.out.mono ?_;rintro e w3 ⟨rfl,k3,e3⟩
  have HB3:Hid (Below w.heap.size w w3):=hid (by rw [e3];exact HB2.out.trans ((drewN_below W2 _).mono HB2.out.size))
  have HG3:Hid (WSl w3 (.slice G (digits g).length cg) g):=hid (by rw [e3];exact HVG2.out.drewN _)
  clear e3 HCM
  go_wp2_with fail
  refine (HDZ.out _ HB3.out HG3.out).mono ?_;rintro e w4 ⟨q1,r1,rfl,hq1,-,hb4⟩
  have HB4:Hid (Below w.heap.size w w4):=hid (HB3.out.trans (hb4.mono HB3.out.size))
  have HG4:=hid (HG3.out.ext hb4);have HQ1:=hid hq1
  clear hq1 hb4 HG3 HDZ
  go_wp2_with fail
  refine (HDD.out _ HB4.out HG4.out).mono ?_;rintro e w5 ⟨q2,r2,rfl,hq2,-,hb5⟩
  have HB5:Hid (Below w.heap.size w w5):=hid (HB4.out.trans (hb5.mono HB4.out.size))
  have HQ2:=hid hq2;have HQ1':=hid (HQ1.out.ext hb5)
  clear hq2 hb5 HG4 HQ1 HDD
  go_wp2_with fail
  refine (set_t p x _ _ (z / (g:Int)) w5 (hp.int.ext HB5.out) HQ1'.out K1.out (by rw [K2.out,decide_eq_decide.2 HZD.out];exact HX.out)).mono ?_;rintro e w6 ⟨rfl,hz4,hb4,ht4⟩
  have hp4:RatBlk w6 p:=⟨hz4.blk,by obtain ⟨A3,n3,c3,h3⟩:=(hp.ext HB5.out).d;exact ⟨A3,n3,c3,(ht4 2 (by omega)).1.trans h3⟩,(ht4 2 (by omega)).2.trans (hp.ext HB5.out).f2⟩
  have hu4:=HQ2.out.but (hp.int.ext HB5.out) hb4
  obtain ⟨A5,n5,c5,hd5⟩:=id hp4.d
  obtain ⟨A6,c6,rfl,-,-,-⟩:=id hu4
  have f5:=hp4.f2
  have HU4:=hid hu4;have HZ4:=hid hz4;have HB6:=hid hb4
  clear hu4 hz4 hb4 ht4
  go_wp2
  go_ret
  exact ⟨rfl,RatP.make hp4 HZ4.out (.inl HU4.out) HN.out HD.out,(((But.refl p w).ext HB5.out).trans HB6.out).set 2 _⟩
end
end Go.Proofs.YtkljafmdbajfeaaGreatDoor
