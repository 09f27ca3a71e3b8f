/- Package big: whole numbers behind pointers; of, small, Sign, set, NewInt, Neg. -/
import Derived.Test.YtkljafmdbajfeaaGreatDoorNoH01
namespace Go.Proofs.YtkljafmdbajfeaaGreatDoor
set_option linter.unusedVariables false
set_option linter.unusedSimpArgs false
open Go.Lib (hid)
section
open Go.RowKit
def WSl (w:World) (v:Value) (n:Nat):Prop:=∃ A c,v=.slice A (digits n).length c∧(digits n).length≤c∧c≤1000000000∧Wds w A (digits n)
theorem WSl.ext {w w':World} {v:Value} {n:Nat} (h:WSl w v n) (hb:Below w.heap.size w w'):WSl w' v n:=by
 obtain ⟨A,c,h1,h2,h3,h4⟩:=h;exact ⟨A,c,h1,h2,h3,h4.ext hb⟩
theorem wds_new (w:World) (ds:List Nat) (b:Nat) (h:w.heap.size=b):Wds (w.alloc (.cells (ds.map fun d=>Value.int .u32 (d:Nat)).toArray 240 (0,0))) (some ⟨b,0,none⟩) ds:=by
 subst h
 intro i hi
 refine ⟨w.heap.size,0,rfl,?_⟩
 rw [Nat.zero_add,(Blk.new w (ds.map fun d=>Value.int .u32 (d:Nat)) _).cell i (by simpa using hi)]
 simp [nthd_lt hi]
theorem digits_two (n:Nat) (h:n<18446744073709551616):trimL [n % 4294967296,n / 4294967296]=digits n:=by
 rw [trimL_digits (by intro d hd;simp at hd;omega)]
 congr 1;simp [val];omega
set_option maxHeartbeats 400000 in
theorem of_big (n:Nat) (w:World) (h:n<18446744073709551616) :
 Calls Tryz.prog 189 #[.int .u64 n] w fun e w'=>∃ v,e=.returned v∧WSl w' v n∧Below w.heap.size w w':=by
 have hd:=digits_two n h
 have HD:=hid hd
 clear hd
 have h1:(n:Int)<18446744073709551616:=by omega
 have hw2:∀ w:World,Wds (w.alloc (.cells #[.int .u32 ((n:Int) % 4294967296),.int .u32 ((n:Int) / 4294967296)] 240 (0,0))) (some ⟨w.heap.size,0,none⟩) [n % 4294967296,n / 4294967296]:=fun w=>wds_new w [n % 4294967296,n / 4294967296] _ rfl
 go_enter Tryz.func189,Tryz.ntmps189
 go_wp2_with fail
 refine (trim_calls _ 2 [n % 4294967296,n / 4294967296] _ (by simp) (by unfold maxLen;omega) (hw2 w)).mono ?_;rintro e w1 ⟨k,rfl,hk,ht,rfl⟩
 have hw3:=(hw2 w).take k
 rw [ht,HD.out] at hw3
 have hl:k=(digits n).length:=by rw [←HD.out,←ht,List.length_take];omega
 have HL:=hid hl
 have hkc:k≤2:=by simpa using hk
 clear ht hk hl
 go_wp2
 go_ret
 exact ⟨_,rfl,⟨_,2,by rw [←HL.out];rfl,by rw [←HL.out];exact hkc,by omega,hw3⟩,(Below.refl _ _).alloc (Nat.le_refl _) _⟩
theorem digits_small {n:Nat}:(digits n).length≤2↔n<18446744073709551616:=by
 constructor
 ·intro h
  have h1:=val_lt (digits_dig n)
  rw [val_digits] at h1
  have:4294967296 ^ (digits n).length≤4294967296 ^ 2:=Nat.pow_le_pow_right (by omega) h
  omega
 ·intro h
  rw [←digits_two n h]
  simp only [trimL];split<;>(try split)<;>simp
theorem digits_cases (n:Nat) (h:n<18446744073709551616):(n=0∧digits n=[])∨(0<n∧n<4294967296∧digits n=[n])∨(4294967296≤n∧digits n=[n % 4294967296,n / 4294967296]):=by
 by_cases h0:n=0
 ·left;exact ⟨h0,by rw [h0,digits_zero]⟩
 ·right
  by_cases h1:n<4294967296
  ·left;exact ⟨by omega,h1,by rw [digits_pos h0,show n / 4294967296=0 by omega,digits_zero,Nat.mod_eq_of_lt h1]⟩
  ·right;refine ⟨by omega,?_⟩
   rw [digits_pos h0,digits_pos (n:=n / 4294967296) (by omega),show n / 4294967296 / 4294967296=0 by omega,digits_zero,Nat.mod_eq_of_lt (by omega:n / 4294967296<4294967296)]
theorem or_words (H L:Nat) (hH:H<4294967296) (hL:L<4294967296):bits .or .u64 ((H:Int)*4294967296) (L:Int)=((L+4294967296*H:Nat):Int):=by
 have e:(H:Int)*4294967296=((H*4294967296:Nat):Int):=by rw [Int.natCast_mul];rfl
 rw [e,u64_or_nat _ _ (by omega) (by omega)]
 have:=Nat.shiftLeft_add_eq_or_of_lt (i:=32) (b:=L) (by omega) H
 rw [Nat.shiftLeft_eq] at this
 rw [show H*4294967296=H*2 ^ 32 from rfl,←this]
 congr 1;omega
set_option maxHeartbeats 1000000 in
theorem small_yes (n:Nat) (v:Value) (w:World) (h:n<18446744073709551616) (hv:WSl w v n) :
 Calls Tryz.prog 178 #[v] w fun e w'=>e=.returned (.tuple #[.int .u64 n,.bool true])∧∃ k,w'=w.drewN k:=by
 obtain ⟨A,c,rfl,hc,hm,hA⟩:=hv
 rcases digits_cases n h with ⟨rfl,hd⟩|⟨h0,h1,hd⟩|⟨h0,hd⟩
 ·rw [hd]
  clear hA hc hd
  go_enter Tryz.func178,Tryz.ntmps178
  go_wp2
  go_ret2
  exact ⟨rfl,0,rfl⟩
 ·rw [hd] at hA ⊢
  obtain ⟨b,o,rfl,g⟩:=hA 0 (by simp)
  have g':w.cell? ⟨b,o,none⟩=some (.int .u32 n):=g
  clear hc hd g hA
  go_enter Tryz.func178,Tryz.ntmps178
  go_wp2
  go_ret2
  exact ⟨rfl,0,rfl⟩
 ·rw [hd] at hA ⊢
  obtain ⟨b,o,rfl,g0⟩:=hA 0 (by simp)
  obtain ⟨b',o',e',g1⟩:=hA 1 (by simp)
  injection e' with e';injection e' with e1 e2;subst e1;subst e2
  have g0':w.cell? ⟨b,o,none⟩=some (.int .u32 (n % 4294967296:Nat)):=g0
  have g1':w.cell? ⟨b,o+1,none⟩=some (.int .u32 (n / 4294967296:Nat)):=g1
  have hH:n / 4294967296<4294967296:=by omega
  have hL:n % 4294967296<4294967296:=by omega
  have hn:n=n % 4294967296+4294967296*(n / 4294967296):=by omega
  generalize n / 4294967296=H at *
  generalize n % 4294967296=L at *
  have HN:=hid hn
  clear hc hd g0 g1 hA hn h h0
  go_enter Tryz.func178,Tryz.ntmps178
  go_wp2_with fail
  go_quiet (fail)
  go_wp2_with fail
  go_ret2
  exact ⟨by rw [or_words H L hH hL,HN.out];rfl,nq,rfl⟩
set_option maxHeartbeats 1000000 in
theorem small_no (n:Nat) (v:Value) (w:World) (h:18446744073709551616≤n) (hl:(digits n).length≤maxLen) (hv:WSl w v n) :
 Calls Tryz.prog 178 #[v] w fun e w'=>e=.returned (.tuple #[.int .u64 0,.bool false])∧w'=w:=by
 obtain ⟨A,c,rfl,hc,hm,hA⟩:=hv
 have h2:2<(digits n).length:=by
  rcases Nat.lt_or_ge 2 (digits n).length with h2|h2
  ·exact h2
  ·have:=digits_small.1 h2;omega
 unfold maxLen at hl
 generalize (digits n).length=N at *
 have e0:((N:Int) == 0)=false:=by simp;omega
 have e1:((N:Int) == 1)=false:=by simp;omega
 have e2:((N:Int) == 2)=false:=by simp;omega
 clear hA hc
 go_enter Tryz.func178,Tryz.ntmps178
 go_wp2
 go_ret2
 exact ⟨rfl,rfl⟩
theorem cell_in {w:World} {b:Nat} {vs:List Value} {T:TypeId} (h:Blk w b vs T) {i:Nat} {x:Value} (hx:w.cell? ⟨b,i,none⟩=some x):x∈vs:=by
 unfold Blk at h
 simp only [World.cell?,h] at hx
 by_cases hi:i<vs.length
 ·simp [hi] at hx;rw [←hx];exact List.getElem_mem hi
 ·simp [hi] at hx
structure IntBlk (w:World) (p:Nat):Prop where
 c:∃ b A n c,w.cell? ⟨p,0,none⟩=some (.bool b)∧w.cell? ⟨p,1,none⟩=some (.slice A n c)
 f0:w.frozen? ⟨p,0,none⟩=false
 f1:w.frozen? ⟨p,1,none⟩=false
 no:∀ o k n,w.cell? ⟨p,o,none⟩≠some (.int k n)
theorem IntBlk.of {w:World} {p:Nat} {b:Bool} {A:Option Addr} {n c:Nat} {T:TypeId} (h:Blk w p [.bool b,.slice A n c] T):IntBlk w p :=
 ⟨⟨b,A,n,c,h.cell 0 (by simp),h.cell 1 (by simp)⟩,h.free 0,h.free 1,fun o k n e=>by have:=cell_in h e;simp at this⟩
theorem IntBlk.lt {w:World} {p:Nat} (h:IntBlk w p):p<w.heap.size:=by obtain ⟨b,A,n,c,h,-⟩:=h.c;exact cell_lt h
theorem IntBlk.same {w w':World} {p:Nat} (h:IntBlk w p) (hb:w'.heap[p]? = w.heap[p]?):IntBlk w' p:=by
 have hc:∀ o,w'.cell? ⟨p,o,none⟩=w.cell? ⟨p,o,none⟩:=fun o=>World.cell?_of_block (a:=⟨p,o,none⟩) hb
 have hf:∀ o,w'.frozen? ⟨p,o,none⟩=w.frozen? ⟨p,o,none⟩:=fun o=>World.frozen?_of_block (a:=⟨p,o,none⟩) hb
 obtain ⟨b,A,n,c,h0,h1⟩:=h.c
 exact ⟨⟨b,A,n,c,(hc 0).trans h0,(hc 1).trans h1⟩,(hf 0).trans h.f0,(hf 1).trans h.f1,fun o k n=>by rw [hc];exact h.no o k n⟩
theorem IntBlk.ext {w w':World} {p:Nat} (h:IntBlk w p) (hb:Below w.heap.size w w'):IntBlk w' p:=h.same (hb.block p h.lt)
def BigP (w:World) (p:Nat) (z:Int):Prop:=IntBlk w p∧∃ v,w.cell? ⟨p,0,none⟩=some (.bool (decide (z<0)))∧w.cell? ⟨p,1,none⟩=some v∧WSl w v z.natAbs
theorem BigP.lt {w:World} {p:Nat} {z:Int} (h:BigP w p z):p<w.heap.size:=h.1.lt
theorem BigP.blk {w:World} {p:Nat} {z:Int} (h:BigP w p z):IntBlk w p:=h.1
theorem BigP.of {w:World} {p:Nat} {z:Int} {v:Value} {n:Nat} {T:TypeId} (h:Blk w p [.bool (decide (z<0)),v] T) (hv:WSl w v n) (hn:z.natAbs=n):BigP w p z:=by
 subst hn
 obtain ⟨A,c,rfl,h1⟩:=id hv
 exact ⟨.of h,_,h.cell 0 (by simp),h.cell 1 (by simp),hv⟩
theorem BigP.ext {w w':World} {p:Nat} {z:Int} (h:BigP w p z) (hb:Below w.heap.size w w'):BigP w' p z:=by
 have hl:=h.lt
 obtain ⟨h0,v,h1,h2,h3⟩:=h;exact ⟨h0.ext hb,v,(hb.cell (p:=⟨p,0,none⟩) hl).trans h1,(hb.cell (p:=⟨p,1,none⟩) hl).trans h2,h3.ext hb⟩
theorem wslice_len {w:World} {v:Value} {n:Nat} (h:WSl w v n):∃ A c,v=.slice A (digits n).length c∧(digits n).length≤1000000000:=by
 obtain ⟨A,c,h1,h2,h3,_⟩:=h;exact ⟨A,c,h1,by omega⟩
theorem digits_len_pos {n:Nat}:0<(digits n).length↔n≠0:=by
 constructor
 ·intro h e;rw [e,digits_zero] at h;simp at h
 ·intro h;rw [digits_pos h];simp
def Tail (p:Nat) (w w':World):Prop:=∀ o,2≤o→w'.cell? ⟨p,o,none⟩=w.cell? ⟨p,o,none⟩∧w'.frozen? ⟨p,o,none⟩=w.frozen? ⟨p,o,none⟩
theorem Tail.of {p:Nat} {w w':World} (h:w'.heap[p]? = w.heap[p]?):Tail p w w':=fun o _=>⟨World.cell?_of_block (a:=⟨p,o,none⟩) h,World.frozen?_of_block (a:=⟨p,o,none⟩) h⟩
theorem Tail.trans {p:Nat} {a b c:World} (h:Tail p a b) (k:Tail p b c):Tail p a c:=fun o ho=>⟨(k o ho).1.trans (h o ho).1,(k o ho).2.trans (h o ho).2⟩
theorem set_cells {w:World} {p:Nat} (h:IntBlk w p) (b:Bool) (A:Option Addr) (n c:Nat) :
 ∃ w',w'=((w.setCell ⟨p,0,none⟩ (.bool b)).setCell ⟨p,1,none⟩ (.slice A n c))∧IntBlk w' p∧w'.cell? ⟨p,0,none⟩=some (.bool b)∧w'.cell? ⟨p,1,none⟩=some (.slice A n c)∧But p w w'∧Tail p w w':=by
 obtain ⟨b0,A0,n0,c0,h0,h1⟩:=h.c
 refine ⟨_,rfl,?_⟩
 have e1:(w.setCell ⟨p,0,none⟩ (.bool b)).cell? ⟨p,1,none⟩=some (.slice A0 n0 c0):=(World.cell?_setCell_other w ⟨p,0,none⟩ ⟨p,1,none⟩ _ (by simp)).trans h1
 have g1:=World.cell?_setCell_same (w.setCell ⟨p,0,none⟩ (.bool b)) ⟨p,1,none⟩ (.slice A n c) e1
 have g0:((w.setCell ⟨p,0,none⟩ (.bool b)).setCell ⟨p,1,none⟩ (.slice A n c)).cell? ⟨p,0,none⟩=some (.bool b) :=
  (World.cell?_setCell_other _ ⟨p,1,none⟩ ⟨p,0,none⟩ _ (by simp)).trans (World.cell?_setCell_same w ⟨p,0,none⟩ (.bool b) h0)
 have hf:∀ o,((w.setCell ⟨p,0,none⟩ (.bool b)).setCell ⟨p,1,none⟩ (.slice A n c)).frozen? ⟨p,o,none⟩=w.frozen? ⟨p,o,none⟩:=fun o=>by
  simp only [World.frozen?_setCell]
 have ht:Tail p w ((w.setCell ⟨p,0,none⟩ (.bool b)).setCell ⟨p,1,none⟩ (.slice A n c)):=fun o ho =>
  ⟨(World.cell?_setCell_other _ ⟨p,1,none⟩ ⟨p,o,none⟩ _ (by intro e;injection e with _ e;omega)).trans (World.cell?_setCell_other _ ⟨p,0,none⟩ ⟨p,o,none⟩ _ (by intro e;injection e with _ e;omega)),hf o⟩
 refine ⟨⟨⟨b,A,n,c,g0,g1⟩,(hf 0).trans h.f0,(hf 1).trans h.f1,fun o k m=>?_⟩,g0,g1,((But.refl p w).set 0 _).set 1 _,ht⟩
 rcases o with _|_|o
 ·rw [g0];simp
 ·rw [show 0+1=1 from rfl,g1];simp
 ·rw [(ht (o+1+1) (by omega)).1];exact h.no _ _ _
set_option maxHeartbeats 400000 in
theorem set_big (p:Nat) (x:Bool) (v:Value) (n:Nat) (w:World) (hz:IntBlk w p) (hv:WSl w v n) :
 Calls Tryz.prog 194 #[.pointer (some ⟨p,0,none⟩),.bool x,v] w fun e w'=>e=.returned (.pointer (some ⟨p,0,none⟩))∧IntBlk w' p∧w'.cell? ⟨p,0,none⟩=some (.bool (x && decide (0<n)))∧w'.cell? ⟨p,1,none⟩=some v∧But p w w'∧Tail p w w':=by
 obtain ⟨A,c,rfl,hl⟩:=wslice_len hv
 obtain ⟨b0,A0,n0,c0,h0,h1⟩:=hz.c
 have f0:=hz.f0
 have f1:=hz.f1
 have hd:decide (0<((digits n).length:Int))=decide (0<n):=by
  have:=digits_len_pos (n:=n)
  by_cases h:n=0
  ·rw [h,digits_zero];rfl
  ·rw [decide_eq_true (by have:=this.2 h;omega),decide_eq_true (by omega)]
 have hset:∀ b,Hid (IntBlk ((w.setCell ⟨p,0,none⟩ (.bool b)).setCell ⟨p,1,none⟩ (.slice A (digits n).length c)) p∧((w.setCell ⟨p,0,none⟩ (.bool b)).setCell ⟨p,1,none⟩ (.slice A (digits n).length c)).cell? ⟨p,0,none⟩=some (.bool b)∧((w.setCell ⟨p,0,none⟩ (.bool b)).setCell ⟨p,1,none⟩ (.slice A (digits n).length c)).cell? ⟨p,1,none⟩=some (.slice A (digits n).length c)∧But p w ((w.setCell ⟨p,0,none⟩ (.bool b)).setCell ⟨p,1,none⟩ (.slice A (digits n).length c))∧Tail p w ((w.setCell ⟨p,0,none⟩ (.bool b)).setCell ⟨p,1,none⟩ (.slice A (digits n).length c))):=fun b=>hid (by
  obtain ⟨w',rfl,h⟩:=set_cells hz b A (digits n).length c
  exact h)
 have HD:=hid hd;have HS:=hid hset
 clear hd hset
 cases x
 ·go_enter Tryz.func194,Tryz.ntmps194
  go_wp2
  go_ret
  exact ⟨rfl,(HS.out false).out⟩
 ·cases hb:decide (0<n)
  ·rw [hb] at HD
   have hd:decide (0<((digits n).length:Int))=false:=HD.out
   have hd2:decide (0<(digits n).length)=false:=by rw [←hd];simp
   go_enter Tryz.func194,Tryz.ntmps194
   go_wp2
   go_ret
   exact ⟨rfl,(HS.out false).out⟩
  ·rw [hb] at HD
   have hd:decide (0<((digits n).length:Int))=true:=HD.out
   have hd2:decide (0<(digits n).length)=true:=by rw [←hd];simp
   go_enter Tryz.func194,Tryz.ntmps194
   go_wp2
   go_ret
   exact ⟨rfl,(HS.out true).out⟩
end
section
open Go.RowKit
theorem IntBlk.other {w w':World} {p q:Nat} (h:IntBlk w p) (hb:But q w w') (hne:p≠q):IntBlk w' p:=h.same (hb.block p h.lt hne)
theorem Wds.but {w w':World} {A:Option Addr} {ds:List Nat} {p:Nat} (h:Wds w A ds) (hp:IntBlk w p) (hb:But p w w'):Wds w' A ds:=fun i hi=>by
 obtain ⟨b,off,e,hc⟩:=h i hi
 refine ⟨b,off,e,?_⟩
 have hne:b≠p:=by rintro rfl;exact hp.no _ _ _ hc
 rw [World.cell?_of_block (w:=w) (hb.block b (cell_lt hc) hne)];exact hc
theorem WSl.but {w w':World} {v:Value} {n p:Nat} (h:WSl w v n) (hp:IntBlk w p) (hb:But p w w'):WSl w' v n:=by
 obtain ⟨A,c,h1,h2,h3,h4⟩:=h;exact ⟨A,c,h1,h2,h3,h4.but hp hb⟩
theorem BigP.but {w w':World} {p q:Nat} {z:Int} (h:BigP w q z) (hp:IntBlk w p) (hb:But p w w') (hne:q≠p):BigP w' q z:=by
 have hq:=hb.block q h.lt hne
 obtain ⟨h0,v,h1,h2,h3⟩:=h
 exact ⟨h0.same hq,v,(World.cell?_of_block (a:=⟨q,0,none⟩) hq).trans h1,(World.cell?_of_block (a:=⟨q,1,none⟩) hq).trans h2,h3.but hp hb⟩
theorem set_t (p:Nat) (x:Bool) (v:Value) (n:Nat) (z:Int) (w:World) (hz:IntBlk w p) (hv:WSl w v n) (hn:z.natAbs=n) (hx:(x && decide (0<n))=decide (z<0)) :
 Calls Tryz.prog 194 #[.pointer (some ⟨p,0,none⟩),.bool x,v] w fun e w'=>e=.returned (.pointer (some ⟨p,0,none⟩))∧BigP w' p z∧But p w w'∧Tail p w w':=by
 refine (set_big p x v n w hz hv).mono ?_
 rintro e w' ⟨he,h0,h1,h2,h3,h4⟩
 rw [hx] at h1
 exact ⟨he,⟨h0,v,h1,h2,by rw [hn];exact hv.but hz h3⟩,h3,h4⟩
theorem set_z (p:Nat) (x:Bool) (v:Value) (n:Nat) (z:Int) (w:World) (hz:IntBlk w p) (hv:WSl w v n) (hn:z.natAbs=n) (hx:(x && decide (0<n))=decide (z<0)) :
 Calls Tryz.prog 194 #[.pointer (some ⟨p,0,none⟩),.bool x,v] w fun e w'=>e=.returned (.pointer (some ⟨p,0,none⟩))∧BigP w' p z∧But p w w' :=
 (set_t p x v n z w hz hv hn hx).mono fun _ _ ⟨h1,h2,h3,_⟩=>⟨h1,h2,h3⟩
set_option maxHeartbeats 1000000 in
theorem newInt_calls (z:Int) (w:World) (h1 : -9223372036854775808≤z) (h2:z≤9223372036854775807) :
 Calls Tryz.prog 147 #[.int .i64 z] w fun e w'=>∃ p,e=.returned (.pointer (some ⟨p,0,none⟩))∧w.heap.size≤p∧BigP w' p z∧Below w.heap.size w w':=by
 by_cases h:z<0
 ·have hd:decide (z<0)=true:=decide_eq_true h
  obtain ⟨m,hm⟩:∃ m:Nat,z = -(m:Int):=⟨z.natAbs,by omega⟩
  subst hm
  have hw:IntKind.u64.wrap (-IntKind.u64.wrap (-(m:Int)))=m:=by simp only [IntKind.wrap_u64];omega
  have hof:=of_big m w (by omega)
  have HW:=hid hw;clear hw
  go_enter Tryz.func147,Tryz.ntmps147
  go_wp2_with fail
  rw [HW.out]
  refine hof.mono ?_;rintro e w1 ⟨v,rfl,hv,hb⟩
  have hs:=hb.size
  have hv':=hv
  obtain ⟨A,c,rfl,-,-,-⟩:=hv'
  go_wp2
  go_ret
  refine ⟨w1.heap.size,rfl,hs,BigP.of (v:=.slice A (digits m).length c) (n:=m) (T:=196) ?_ (hv.ext ((Below.refl _ _).alloc (Nat.le_refl _) _)) (by omega),hb.alloc hs _⟩
  rw [hd];exact Blk.new w1 [.bool true,_] _
 ·have hd:decide (z<0)=false:=decide_eq_false h
  obtain ⟨m,rfl⟩:∃ m:Nat,z=(m:Int):=⟨z.natAbs,by omega⟩
  have hof:=of_big m w (by omega)
  go_enter Tryz.func147,Tryz.ntmps147
  go_wp2_with fail
  refine hof.mono ?_;rintro e w1 ⟨v,rfl,hv,hb⟩
  have hs:=hb.size
  have hv':=hv
  obtain ⟨A,c,rfl,-,-,-⟩:=hv'
  go_wp2
  go_ret
  refine ⟨w1.heap.size,rfl,hs,BigP.of (v:=.slice A (digits m).length c) (n:=m) (T:=196) ?_ (hv.ext ((Below.refl _ _).alloc (Nat.le_refl _) _)) (by omega),hb.alloc hs _⟩
  rw [hd];exact Blk.new w1 [.bool false,_] _
set_option maxHeartbeats 1000000 in
theorem sign_calls (p:Nat) (z:Int) (w:World) (hz:BigP w p z) :
 Calls Tryz.prog 150 #[.pointer (some ⟨p,0,none⟩)] w fun e w'=>e=.returned (.int .i64 (sgnI z 0))∧w'=w:=by
 obtain ⟨-,v,hb0,hb1,A,c,rfl,hc,hm,hA⟩:=hz
 have c0:w.cell? ⟨p,0,none⟩=some (.bool (decide (z<0))):=hb0
 have c1:w.cell? ⟨p,1,none⟩=some (.slice A (digits z.natAbs).length c):=hb1
 have hl:(digits z.natAbs).length≤1000000000:=by omega
 clear hb0 hb1 hA
 by_cases h0:z=0
 ·subst h0
  have e:(digits (0:Int).natAbs).length=0:=by show (digits 0).length=0;rw [digits_zero];rfl
  rw [e] at c1
  clear e hc hl
  go_enter Tryz.func150,Tryz.ntmps150
  go_wp2
  go_ret
  exact ⟨rfl,rfl⟩
 ·have hp:=(digits_len_pos (n:=z.natAbs)).2 (by omega)
  have hs:sgnI z 0=if z<0 then -1 else 1:=by
   by_cases h:z<0
   ·rw [sgnI_lt h,if_pos h]
   ·rw [sgnI_gt (by omega),if_neg h]
  generalize (digits z.natAbs).length=N at *
  have e1:((N:Int) == 0)=false:=by simp;omega
  cases hn:decide (z<0)
  ·rw [hn] at c0
   rw [if_neg (of_decide_eq_false hn)] at hs
   have HS:=hid hs
   clear hn hs h0 hp hc
   go_enter Tryz.func150,Tryz.ntmps150
   go_wp2
   go_ret
   exact ⟨by rw [HS.out];rfl,rfl⟩
  ·rw [hn] at c0
   rw [if_pos (of_decide_eq_true hn)] at hs
   have HS:=hid hs
   clear hn hs h0 hp hc
   go_enter Tryz.func150,Tryz.ntmps150
   go_wp2
   go_ret
   exact ⟨by rw [HS.out];rfl,rfl⟩
theorem sgn_cmp (x y:Int):(if (decide (x<0) != decide (y<0)) then sgnI (sgnI x 0) (sgnI y 0) else if decide (x<0) then -sgn x.natAbs y.natAbs else sgn x.natAbs y.natAbs)=sgnI x y:=by
 by_cases hx:x<0<;>by_cases hy:y<0
 ·simp only [hx,hy];simp;unfold sgn sgnI;split<;>split<;>(try split)<;>(try split)<;>omega
 ·simp only [hx,hy];simp
  rw [sgnI_lt hx,sgnI_lt (show x<y by omega)]
  by_cases h:y=0
  ·subst h;rw [sgnI_eq rfl];exact sgnI_lt (by omega)
  ·rw [sgnI_gt (show 0<y by omega)];exact sgnI_lt (by omega)
 ·simp only [hx,hy];simp
  rw [sgnI_lt hy,sgnI_gt (show y<x by omega)]
  by_cases h:x=0
  ·subst h;rw [sgnI_eq rfl];exact sgnI_gt (by omega)
  ·rw [sgnI_gt (show 0<x by omega)];exact sgnI_gt (by omega)
 ·simp only [hx,hy];simp;unfold sgn sgnI;split<;>split<;>(try split)<;>(try split)<;>omega
theorem neqBool (w:World) (a b:Bool):(binOp .neq 4 (.bool a) (.bool b)).run Tryz.prog w=.ok (.bool (!(a == b))) w:=run_neq_bool _ _ _ _ Tryz.underlying4
theorem eqlBool (w:World) (a b:Bool):(binOp .eql 4 (.bool a) (.bool b)).run Tryz.prog w=.ok (.bool (a == b)) w:=run_eql_bool _ _ _ _ Tryz.underlying4
theorem compare_q (v u:Value) (n m:Nat) (w:World) (k:Nat) (hv:WSl w v n) (hu:WSl w u m) :
 Calls Tryz.prog 208 #[v,u] (w.drewN k) fun e w'=>e=.returned (.int .i64 (sgn n m))∧∃ k,w'=w.drewN k:=by
 obtain ⟨A,c,rfl,h1,h2,h3⟩:=hv
 obtain ⟨B,d,rfl,k1,k2,k3⟩:=hu
 exact Calls.quiet_of (compare_calls A B c d n m (w.drewN k) (by unfold maxLen;omega) (by unfold maxLen;omega) (h3.ext (drewN_below _ _)) (k3.ext (drewN_below _ _)))
set_option maxHeartbeats 400000 in
theorem cmp_calls (p q:Nat) (x y:Int) (w:World) (hx:BigP w p x) (hy:BigP w q y) :
 Calls Tryz.prog 227 #[.pointer (some ⟨p,0,none⟩),.pointer (some ⟨q,0,none⟩)] w fun e w'=>e=.returned (.int .i64 (sgnI x y))∧∃ k,w'=w.drewN k:=by
 obtain ⟨-,v,hb0,hb1,hv⟩:=id hx
 obtain ⟨-,u,hd0,hd1,hu⟩:=id hy
 have c0:w.cell? ⟨p,0,none⟩=some (.bool (decide (x<0))):=hb0
 have c1:w.cell? ⟨p,1,none⟩=some v:=hb1
 have d0:w.cell? ⟨q,0,none⟩=some (.bool (decide (y<0))):=hd0
 have d1:w.cell? ⟨q,1,none⟩=some u:=hd1
 have hs:=sgn_cmp x y
 have hcx:∀ n,_:=fun n=>sign_calls p x (w.drewN n) (hx.ext (drewN_below _ _))
 have hcy:∀ n,_:=fun n=>sign_calls q y (w.drewN n) (hy.ext (drewN_below _ _))
 have hq:∀ k,_:=fun k=>compare_q v u x.natAbs y.natAbs w k hv hu
 clear hb0 hb1 hd0 hd1
 obtain ⟨S,hS⟩:∃ S,Hid (sgn x.natAbs y.natAbs=S):=⟨_,rfl⟩
 rw [hS.out] at hs hq
 obtain ⟨X,hX⟩:∃ X,Hid (sgnI x 0=X):=⟨_,rfl⟩
 obtain ⟨Y,hY⟩:∃ Y,Hid (sgnI y 0=Y):=⟨_,rfl⟩
 rw [hX.out] at hs hcx
 rw [hY.out] at hs hcy
 have hSb : -1≤S∧S≤1:=by rw [←hS.out];unfold sgn;split<;>(try split)<;>omega
 obtain ⟨s1,s2⟩:=hSb
 have HCX:=hid hcx;have HCY:=hid hcy;have HQ:=hid hq
 clear hcx hcy hq
 have q4:=neqBool
 cases bx:decide (x<0)<;>cases by':decide (y<0)
 all_goals
  rw [bx] at c0 hs
  rw [by'] at d0 hs
  have HS:=hid hs
  clear hs bx by'
  go_enter Tryz.func227,Tryz.ntmps227
  go_wp2_with fail
  go_quiet ((go_at_call 208;exact HQ.out _))
  go_wp2_with fail
  go_quiet (fail)
  go_wp2_with (first|(go_at_call 150;(with_reducible refine (HCX.out _).mono ?_);rintro e w1 ⟨rfl,rfl⟩)|(go_at_call 150;(with_reducible refine (HCY.out _).mono ?_);rintro e w1 ⟨rfl,rfl⟩)|(go_at_call 230;refine (cmpInt_calls _ _ _).mono ?_;rintro e w1 ⟨rfl,rfl⟩))
  go_ret
  exact ⟨by rw [←HS.out];rfl,_,by first|rfl|exact drewN_add _ _ _⟩
end
section
open Go.RowKit
def UBlk (w:World) (b:Nat) (ds:List Nat):Prop:=Blk w b (ds.map fun d=>Value.int .u32 (d:Nat)) 240
theorem UBlk.cell {w:World} {b:Nat} {ds:List Nat} (h:UBlk w b ds) (i:Nat) (hi:i<ds.length):w.cell? ⟨b,i,none⟩=some (.int .u32 (nthd ds i:Nat)):=by
 rw [Blk.cell h i (by simpa using hi)];simp [nthd_lt hi]
theorem UBlk.set {w:World} {b:Nat} {ds:List Nat} (h:UBlk w b ds) (i d:Nat):UBlk (w.setCell ⟨b,i,none⟩ (.int .u32 (d:Nat))) b (ds.set i d):=by
 have:=Blk.set h i (.int .u32 (d:Nat));unfold UBlk;rw [List.map_set];exact this
theorem UBlk.wds {w:World} {b:Nat} {ds:List Nat} (h:UBlk w b ds):Wds w (some ⟨b,0,none⟩) ds:=fun i hi=>⟨b,0,rfl,by rw [Nat.zero_add];exact h.cell i hi⟩
theorem infoU32:(Tryz.prog.info? 240).map (fun i=>(i.zero,i.size,i.bytes))=some (some (.int .u32 0),1,4):=by kernel_rfl
theorem madeU32 (n:Nat):madeCells (Value.int .u32 0).cells n=Array.replicate n (.int .u32 0):=by
 unfold madeCells
 apply Array.ext
 ·simp
 ·intro j h1 h2;simp [Value.cells,Nat.mod_one]
theorem run_makeU32 (w:World) (n:Nat) (h:n≤35184372088832) :
 (Instr.makeSlice 194 (.int .i64 n) (.int .i64 n)).run Tryz.prog w=.ok (.slice (some ⟨w.heap.size,0,none⟩) n n) (w.alloc (.cells (Array.replicate n (.int .u32 0)) 240 (0,0))):=by
 obtain ⟨i,hi,hz,hs,hb⟩:=info_parts infoU32
 rw [run_make w 194 240 i (.int .u32 0) Tryz.underlying194 hi hz .i64 .i64 n n (by omega) (by omega) (by rw [hb];omega) (by omega)]
 simp only [Int.toNat_natCast,hs,Nat.mul_one]
 rw [madeU32]
theorem UBlk.made (w:World) (n b:Nat) (h:w.heap.size=b):UBlk (w.alloc (.cells (Array.replicate n (.int .u32 0)) 240 (0,0))) b (List.replicate n 0):=by
 have e:Array.replicate n (Value.int .u32 0)=((List.replicate n 0).map fun d:Nat=>Value.int .u32 (d:Nat)).toArray:=by rw [List.map_replicate];simp
 rw [e];exact Blk.new' _ _ _ _ h
theorem nthd_out {l:List Nat} {i:Nat} (h:l.length≤i):nthd l i=0:=by unfold nthd;rw [List.getD_eq_getElem?_getD,List.getElem?_eq_none h];rfl
theorem val_take_succ (l:List Nat) (k:Nat):val (l.take (k+1))=val (l.take k)+4294967296 ^ k*nthd l k:=by
 by_cases h:k<l.length
 ·rw [take_nthd h,val_append,List.length_take,Nat.min_eq_left (by omega)];simp [val]
 ·rw [nthd_out (by omega),List.take_of_length_le (by omega),List.take_of_length_le (by omega)];simp
theorem take_set_succ {l:List Nat} {k:Nat} (h:k<l.length) (d:Nat):(l.set k d).take (k+1)=l.take k ++ [d]:=by
 rw [List.take_succ_eq_append_getElem (by simpa using h),List.take_set_of_le (by omega)];simp
theorem val_set_succ {l:List Nat} {k:Nat} (h:k<l.length) (d:Nat):val ((l.set k d).take (k+1))=val (l.take k)+4294967296 ^ k*d:=by
 rw [take_set_succ h,val_append,List.length_take,Nat.min_eq_left (by omega)];simp [val]
theorem Dig.set {l:List Nat} (h:Dig l) (k:Nat) {d:Nat} (hd:d<4294967296):Dig (l.set k d):=fun x hx=>by
 rcases List.mem_or_eq_of_mem_set hx with h1|h1
 ·exact h x h1
 ·rw [h1];exact hd
theorem Dig.zeros (n:Nat):Dig (List.replicate n 0):=fun d hd=>by rw [(List.mem_replicate.1 hd).2];omega
theorem carry_step (P c x y T A B:Nat) (h:T+P*c=A+B):T+P*((c+x+y) % 4294967296)+P*4294967296*((c+x+y) / 4294967296)=A+P*x+(B+P*y):=by
 have e:(c+x+y) % 4294967296+4294967296*((c+x+y) / 4294967296)=c+x+y:=by omega
 have e2:P*((c+x+y) % 4294967296)+P*4294967296*((c+x+y) / 4294967296)=P*c+P*x+P*y:=by
  rw [Nat.mul_assoc,←Nat.mul_add,e,Nat.mul_add,Nat.mul_add]
 omega
theorem castm (s:Nat):((s % 4294967296:Nat):Int)=(s:Int) % 4294967296:=by omega
theorem castd (s:Nat):((s / 4294967296:Nat):Int)=(s:Int) / 4294967296:=by omega
theorem castm3 (x y z:Nat):(((x+y+z) % 4294967296:Nat):Int)=((x:Int)+y+z) % 4294967296:=by omega
theorem castd3 (x y z:Nat):(((x+y+z) / 4294967296:Nat):Int)=((x:Int)+y+z) / 4294967296:=by omega
def PlusAt (a b os:List Nat) (k c:Nat):Prop:=os.length=a.length+1∧Dig os∧c≤1∧val (os.take k)+4294967296 ^ k*c=val (a.take k)+val (b.take k)
theorem PlusAt.step {a b os:List Nat} {k c:Nat} (h:PlusAt a b os k c) (ha:Dig a) (hb:Dig b) (hk:k<a.length) :
 PlusAt a b (os.set k ((c+nthd a k+nthd b k) % 4294967296)) (k+1) ((c+nthd a k+nthd b k) / 4294967296):=by
 obtain ⟨h1,h2,h3,h4⟩:=h
 have x:=ha.nth k;have y:=hb.nth k
 refine ⟨by simpa using h1,h2.set _ (Nat.mod_lt _ (by omega)),by omega,?_⟩
 rw [val_set_succ (by omega),val_take_succ,val_take_succ,Nat.pow_succ]
 exact carry_step _ _ _ _ _ _ _ h4
theorem PlusAt.done {a b os:List Nat} {c:Nat} (h:PlusAt a b os a.length c) (hl:b.length≤a.length):trimL (os.set a.length c)=digits (val a+val b):=by
 obtain ⟨h1,h2,h3,h4⟩:=h
 rw [trimL_digits (h2.set _ (by omega))]
 congr 1
 have:=val_set_succ (l:=os) (k:=a.length) (by omega) c
 rw [List.take_of_length_le (by simp;omega)] at this
 rw [this,h4,List.take_length,List.take_of_length_le hl]
set_option maxRecDepth 100000 in
set_option maxHeartbeats 2000000 in
theorem plus_loop (A B:Option Addr) (ca cb:Nat) (a b:List Nat) (w:World) (hl:b.length≤a.length) (ha:Dig a) (hb:Dig b) (hm:a.length≤100000000) (hA:Wds w A a) (hB:Wds w B b) :
 Calls Tryz.prog 207 #[.slice A a.length ca,.slice B b.length cb] w fun e w'=>∃ v,e=.returned v∧WSl w' v (val a+val b)∧Below w.heap.size w w':=by
 have hmk:=fun w=>run_makeU32 w (a.length+1) (by omega)
 have ec:((a.length+1:Nat):Int)=(a.length:Int)+1:=by push_cast;rfl
 rw [ec] at hmk
 clear ec
 have hge:decide ((a.length:Int)<b.length)=false:=decide_eq_false (by omega)
 go_enter Tryz.func207,Tryz.ntmps207
 go_wp2
 go_loopw [6,7,21] (fun c _ i wr=>∃ (k cn:Nat) (os:List Nat),k≤a.length∧i=.int .i64 k∧c=.int .u64 cn∧UBlk wr w.heap.size os∧PlusAt a b os k cn∧Below w.heap.size w wr) (fun _ _ i _=>a.length-(intOf i).toNat)
 case atStart=>exact ⟨0,0,List.replicate (a.length+1) 0,Nat.zero_le _,rfl,rfl,UBlk.made _ _ _ rfl,⟨by simp,Dig.zeros _,by omega,by simp [val]⟩,(Below.refl _ _).alloc (Nat.le_refl _) _⟩
 case round =>
  obtain ⟨k,cn,os,hk,rfl,rfl,hos,hp,hbe⟩:=hrel
  obtain ⟨p1,p2,p3,p4⟩:=id hp
  have hP:=hid hp;have P1:=hid p1
  clear hp p1 p4
  by_cases hlt:k<a.length
  ·obtain ⟨bA,oA,rfl,gA⟩:=(hA.ext hbe) k hlt
   have xa:=ha.nth k
   have c1:=hos.cell k (by have:=P1.out;omega)
   have f1:=Blk.free hos k
   by_cases hlb:k<b.length
   ·obtain ⟨bB,oB,rfl,gB⟩:=(hB.ext hbe) k hlb
    have xb:=hb.nth k
    have hP2:=PlusAt.step hP.out ha hb hlt
    have e1:(((cn+nthd a k+nthd b k) % 4294967296:Nat):Int)=((cn:Int)+nthd a k+nthd b k) % 4294967296:=castm3 _ _ _
    have e2:(((cn+nthd a k+nthd b k) / 4294967296:Nat):Int)=((cn:Int)+nthd a k+nthd b k) / 4294967296:=castd3 _ _ _
    have HP2:=hid hP2;have E1:=hid e1;have E2:=hid e2
    clear hP2 e1 e2
    go_wp2
    go_roundw
    case rel=>exact ⟨k+1,_,_,by omega,by go_num,by rw [←E2.out],by rw [←E1.out];exact hos.set k _,HP2.out,hbe.setCell (by dsimp only;omega) _⟩
    case measure=>simp [intOf];omega
   ·have hlb':decide ((k:Int)<b.length)=false:=decide_eq_false (by omega)
    have hP2:=PlusAt.step hP.out ha hb hlt
    rw [nthd_out (l:=b) (by omega),Nat.add_zero] at hP2
    have e1:(((cn+nthd a k) % 4294967296:Nat):Int)=((cn:Int)+nthd a k) % 4294967296:=by omega
    have e2:(((cn+nthd a k) / 4294967296:Nat):Int)=((cn:Int)+nthd a k) / 4294967296:=by omega
    have HP2:=hid hP2;have E1:=hid e1;have E2:=hid e2
    clear hP2 e1 e2
    go_wp2
    go_roundw
    case rel=>exact ⟨k+1,_,_,by omega,by go_num,by rw [←E2.out],by rw [←E1.out];exact hos.set k _,HP2.out,hbe.setCell (by dsimp only;omega) _⟩
    case measure=>simp [intOf];omega
  ·obtain rfl:k=a.length:=by omega
   have c1:=hos.cell a.length (by have:=P1.out;omega)
   have f1:=Blk.free hos a.length
   have hd:=PlusAt.done hP.out hl
   have HD:=hid hd
   have hcm:(cn:Int) % 4294967296=cn:=by omega
   have hsz:=hbe.size
   clear hd
   have htr:∀ w2,UBlk w2 w.heap.size (os.set a.length cn)→_:=fun w2 h=>trim_calls (some ⟨w.heap.size,0,none⟩) (a.length+1) (os.set a.length cn) w2 (by simp;have:=P1.out;omega) (by unfold maxLen;omega) h.wds
   rw [List.length_set,P1.out] at htr
   have HT:=hid htr
   clear htr
   go_wp2_with fail
   refine (HT.out _ (hos.set a.length cn)).mono ?_;rintro e w3 ⟨n,rfl,hn,ht,rfl⟩
   have hfin:=((hos.set a.length cn).wds).take n
   rw [ht,HD.out] at hfin
   have hnl:n=(digits (val a+val b)).length:=by
    rw [←HD.out,←ht,List.length_take];simp;have:=P1.out;omega
   have HN:=hid hnl
   clear hnl
   go_wp2
   go_ret
   exact ⟨_,rfl,⟨_,a.length+1,by rw [←HN.out];rfl,by rw [←HN.out];have:=P1.out;omega,by omega,hfin⟩,hbe.setCell (by dsimp only;omega) _⟩
end
section
open Go.RowKit
def MinAt (a b os:List Nat) (k c:Nat):Prop:=os.length=a.length∧Dig os∧c≤1∧val (os.take k)+val (b.take k)=val (a.take k)+4294967296 ^ k*c
def mdig (x y c:Nat):Nat:=(x+4294967296*(if x<y+c then 1 else 0))-(y+c)
def mbor (x y c:Nat):Nat:=if x<y+c then 1 else 0
theorem MinAt.step {a b os:List Nat} {k c:Nat} (h:MinAt a b os k c) (ha:Dig a) (hb:Dig b) (hk:k<a.length) :
 MinAt a b (os.set k (mdig (nthd a k) (nthd b k) c)) (k+1) (mbor (nthd a k) (nthd b k) c):=by
 obtain ⟨h1,h2,h3,h4⟩:=h
 have x:=ha.nth k;have y:=hb.nth k
 have e:mdig (nthd a k) (nthd b k) c+nthd b k+c=nthd a k+4294967296*mbor (nthd a k) (nthd b k) c:=by
  unfold mdig mbor;split<;>omega
 refine ⟨by simpa using h1,h2.set _ (by unfold mdig;split<;>omega),by unfold mbor;split<;>omega,?_⟩
 rw [val_set_succ (by omega),val_take_succ,val_take_succ,Nat.pow_succ]
 generalize 4294967296 ^ k=P at *
 generalize mdig (nthd a k) (nthd b k) c=d at *
 generalize mbor (nthd a k) (nthd b k) c=r at *
 have e2:P*d+P*nthd b k+P*c=P*nthd a k+P*4294967296*r:=by
  rw [←Nat.mul_add,←Nat.mul_add,e,Nat.mul_add,Nat.mul_assoc]
 omega
theorem MinAt.done {a b os:List Nat} {c:Nat} (h:MinAt a b os a.length c) (ha:Dig a) (hl:b.length≤a.length) (hv:val b≤val a):trimL os=digits (val a-val b):=by
 obtain ⟨h1,h2,h3,h4⟩:=h
 rw [trimL_digits h2]
 rw [List.take_length,List.take_of_length_le hl,←h1,List.take_length,h1] at h4
 have hlt:=val_lt h2
 rw [h1] at hlt
 have hc:c=0:=by
  rcases Nat.lt_or_ge 0 c with h|h
  ·have:c=1:=by omega
   subst this;omega
  ·omega
 subst hc
 congr 1;omega
theorem mbor_w {x y c:Nat} (hx:x<4294967296) (hy:y<4294967296) (hc:c≤1):IntKind.u64.wrap (IntKind.u64.wrap ((x:Int)-c)-y) / 9223372036854775808=((mbor x y c:Nat):Int):=by
 rw [IntKind.wrap_u64,IntKind.wrap_u64];unfold mbor;split<;>omega
theorem mdig_w {x y c:Nat} (hx:x<4294967296) (hy:y<4294967296) (hc:c≤1):IntKind.u64.wrap (IntKind.u64.wrap ((x:Int)-c)-y) % 4294967296=((mdig x y c:Nat):Int):=by
 rw [IntKind.wrap_u64,IntKind.wrap_u64];unfold mdig;split<;>omega
theorem mbor_z {x c:Nat} (hx:x<4294967296) (hc:c≤1):IntKind.u64.wrap ((x:Int)-c) / 9223372036854775808=((mbor x 0 c:Nat):Int):=by
 rw [IntKind.wrap_u64];unfold mbor;split<;>omega
theorem mdig_z {x c:Nat} (hx:x<4294967296) (hc:c≤1):IntKind.u64.wrap ((x:Int)-c) % 4294967296=((mdig x 0 c:Nat):Int):=by
 rw [IntKind.wrap_u64];unfold mdig;split<;>omega
set_option maxRecDepth 100000 in
set_option maxHeartbeats 2000000 in
theorem minus_calls (A B:Option Addr) (ca cb:Nat) (a b:List Nat) (w:World) (hl:b.length≤a.length) (hv:val b≤val a) (ha:Dig a) (hb:Dig b) (hm:a.length≤100000000) (hA:Wds w A a) (hB:Wds w B b) :
 Calls Tryz.prog 209 #[.slice A a.length ca,.slice B b.length cb] w fun e w'=>∃ v,e=.returned v∧WSl w' v (val a-val b)∧Below w.heap.size w w':=by
 have hmk:=fun w=>run_makeU32 w a.length (by omega)
 go_enter Tryz.func209,Tryz.ntmps209
 go_wp2
 go_loopw [6,7,8,14] (fun c _ _ i wr=>∃ (k cn:Nat) (os:List Nat),k≤a.length∧i=.int .i64 k∧c=.int .u64 cn∧UBlk wr w.heap.size os∧MinAt a b os k cn∧Below w.heap.size w wr) (fun _ _ _ i _=>a.length-(intOf i).toNat)
 case atStart=>exact ⟨0,0,List.replicate a.length 0,Nat.zero_le _,rfl,rfl,UBlk.made _ _ _ rfl,⟨by simp,Dig.zeros _,by omega,by simp [val]⟩,(Below.refl _ _).alloc (Nat.le_refl _) _⟩
 case round =>
  obtain ⟨k,cn,os,hk,rfl,rfl,hos,hp,hbe⟩:=hrel
  obtain ⟨p1,p2,p3,p4⟩:=id hp
  have hP:=hid hp;have P1:=hid p1
  clear hp p1 p4
  by_cases hlt:k<a.length
  ·obtain ⟨bA,oA,rfl,gA⟩:=(hA.ext hbe) k hlt
   have xa:=ha.nth k
   have c1:=hos.cell k (by have:=P1.out;omega)
   have f1:=Blk.free hos k
   by_cases hlb:k<b.length
   ·obtain ⟨bB,oB,rfl,gB⟩:=(hB.ext hbe) k hlb
    have xb:=hb.nth k
    have hP2:=MinAt.step hP.out ha hb hlt
    have HP2:=hid hP2
    clear hP2
    go_wp2
    go_roundw
    case rel =>
     refine ⟨k+1,mbor (nthd a k) (nthd b k) cn,_,by omega,by go_num,?_,?_,HP2.out,?_⟩
     ·rw [mbor_w xa xb p3]
     ·rw [mdig_w xa xb p3];exact hos.set k _
     ·exact hbe.setCell (by dsimp only;omega) _
    case measure=>simp [intOf];omega
   ·have hlb':decide ((k:Int)<b.length)=false:=decide_eq_false (by omega)
    have hP2:=MinAt.step hP.out ha hb hlt
    rw [nthd_out (l:=b) (by omega)] at hP2
    have HP2:=hid hP2
    clear hP2
    go_wp2
    go_roundw
    case rel =>
     refine ⟨k+1,mbor (nthd a k) 0 cn,_,by omega,by go_num,?_,?_,HP2.out,?_⟩
     ·rw [mbor_z xa p3]
     ·rw [mdig_z xa p3];exact hos.set k _
     ·exact hbe.setCell (by dsimp only;omega) _
    case measure=>simp [intOf];omega
  ·obtain rfl:k=a.length:=by omega
   have hd:=MinAt.done hP.out ha hl hv
   have HD:=hid hd
   clear hd
   have htr:=trim_calls (some ⟨w.heap.size,0,none⟩) a.length os wr (by have:=P1.out;omega) (by unfold maxLen;omega) hos.wds
   rw [P1.out] at htr
   have HT:=hid htr
   clear htr
   go_wp2_with fail
   refine (HT.out).mono ?_;rintro e w3 ⟨n,rfl,hn,ht,rfl⟩
   have hfin:=(hos.wds).take n
   rw [ht,HD.out] at hfin
   have hnl:n=(digits (val a-val b)).length:=by
    rw [←HD.out,←ht,List.length_take];have:=P1.out;omega
   have HN:=hid hnl
   clear hnl
   go_wp2
   go_ret
   exact ⟨_,rfl,⟨_,a.length,by rw [←HN.out];rfl,by rw [←HN.out];have:=P1.out;omega,by omega,hfin⟩,hbe⟩
end
end Go.Proofs.YtkljafmdbajfeaaGreatDoor
