/- Package big: digits in memory; trim, compare, small, of, Sign, set. -/
import Derived.Laws.OwnMore
import Derived.Test.YtkljafmdbajfeaaGreatDoorNoH00
namespace Go.Proofs.YtkljafmdbajfeaaGreatDoor
set_option linter.unusedVariables false
set_option linter.unusedSimpArgs false
open Go.Lib (hid)
section
open Go.RowKit
def Wds (w:World) (A:Option Addr) (ds:List Nat):Prop :=
 ∀ i,i<ds.length→∃ b off,A=some ⟨b,off,none⟩∧w.cell? ⟨b,off+i,none⟩=some (.int .u32 (nthd ds i:Nat))
theorem Wds.ext {w w':World} {A:Option Addr} {ds:List Nat} (h:Wds w A ds) (hb:Below w.heap.size w w'):Wds w' A ds:=fun i hi=>by
 obtain ⟨b,off,e,hc⟩:=h i hi
 exact ⟨b,off,e,by rw [hb.cell (cell_lt hc)];exact hc⟩
theorem Wds.take {w:World} {A:Option Addr} {ds:List Nat} (h:Wds w A ds) (k:Nat):Wds w A (ds.take k):=fun i hi=>by
 rw [List.length_take] at hi
 obtain ⟨b,off,e,hc⟩:=h i (by omega)
 refine ⟨b,off,e,?_⟩
 rw [hc];congr 3;unfold nthd;simp [List.getElem?_take,show i<k by omega]
theorem trimL_snoc0:∀ l:List Nat,trimL (l ++ [0])=trimL l
 | []=>by simp [trimL]
 | d :: l=>by simp only [List.cons_append,trimL,trimL_snoc0 l]
theorem trimL_snoc:∀ (l:List Nat) {d:Nat},d≠0→trimL (l ++ [d])=l ++ [d]
 | [],d,h=>by simp [trimL,h]
 | x :: l,d,h=>by simp only [List.cons_append,trimL,trimL_snoc l h];rw [if_neg (by simp)]
set_option maxHeartbeats 400000 in
theorem trim_calls (A:Option Addr) (c:Nat) (ds:List Nat) (w:World) (hc:ds.length≤c) (hm:c≤maxLen) (hA:Wds w A ds) :
 Calls Tryz.prog 224 #[.slice A ds.length c] w fun e w'=>∃ n,e=.returned (.slice A n c)∧n≤ds.length∧ds.take n=trimL ds∧w'=w:=by
 unfold maxLen at hm
 go_enter Tryz.func224,Tryz.ntmps224
 go_wp2
 go_loop [3] (fun i=>∃ n:Nat,n≤ds.length∧i=.int .i64 n∧trimL (ds.take n)=trimL ds) (fun i=>(intOf i).toNat)
 case atStart=>exact ⟨ds.length,Nat.le_refl _,rfl,by rw [List.take_length]⟩
 case round =>
  obtain ⟨n,hn,rfl,ht⟩:=hrel
  have HT:=hid ht;clear ht
  cases n with
  | zero =>
    go_wp2
    go_ret
    exact ⟨0,rfl,by omega,by rw [←HT.out];rfl,rfl⟩
  | succ n =>
    obtain ⟨b,off,rfl,g⟩:=hA n (by omega)
    have htk:=take_nthd (ds:=ds) (i:=n) (by omega)
    have HK:=hid htk;clear htk
    have ec:((n+1:Nat):Int)=(n:Int)+1:=by push_cast;rfl
    rw [ec]
    clear ec
    have hl:(n:Int)<ds.length:=by omega
    cases hd:nthd ds n with
    | zero =>
      rw [hd] at g
      have HD:=hid hd;clear hd
      go_wp2
      go_round
      case rel=>exact ⟨n,by omega,by go_num,by rw [←HT.out,HK.out,HD.out,trimL_snoc0]⟩
      case measure=>simp [intOf]<;>omega
    | succ d =>
      rw [hd] at g
      have HD:=hid hd;clear hd
      have e0:(((d+1:Nat):Int) == 0)=false:=by simp;omega
      go_wp2
      go_ret
      exact ⟨n+1,by first|rfl|(push_cast;rfl),by omega,by rw [←HT.out,HK.out,HD.out,trimL_snoc _ (by omega)],rfl⟩
def sgn (x y:Nat):Int:=if x<y then -1 else if y<x then 1 else 0
def sgnI (x y:Int):Int:=if x<y then -1 else if y<x then 1 else 0
theorem sgnI_lt {x y:Int} (h:x<y):sgnI x y = -1:=by unfold sgnI;rw [if_pos h]
theorem sgnI_gt {x y:Int} (h:y<x):sgnI x y=1:=by unfold sgnI;rw [if_neg (by omega),if_pos h]
theorem sgnI_eq {x y:Int} (h:x=y):sgnI x y=0:=by unfold sgnI;rw [if_neg (by omega),if_neg (by omega)]
theorem sgn_lt {x y:Nat} (h:x<y):sgn x y = -1:=by unfold sgn;rw [if_pos h]
theorem sgn_gt {x y:Nat} (h:y<x):sgn x y=1:=by unfold sgn;rw [if_neg (by omega),if_pos h]
theorem sgn_eq {x y:Nat} (h:x=y):sgn x y=0:=by unfold sgn;rw [if_neg (by omega),if_neg (by omega)]
set_option maxHeartbeats 400000 in
theorem cmpInt_calls (x y:Int) (w:World) :
 Calls Tryz.prog 230 #[.int .i64 x,.int .i64 y] w fun e w'=>e=.returned (.int .i64 (sgnI x y))∧w'=w:=by
 by_cases h1:x<y
 ·have d1:decide (x<y)=true:=decide_eq_true h1
  go_enter Tryz.func230,Tryz.ntmps230
  go_wp2
  go_ret
  exact ⟨by rw [sgnI_lt h1];rfl,rfl⟩
 ·have d1:decide (x<y)=false:=decide_eq_false h1
  by_cases h2:y<x
  ·have d2:decide (y<x)=true:=decide_eq_true h2
   go_enter Tryz.func230,Tryz.ntmps230
   go_wp2
   go_ret
   exact ⟨by rw [sgnI_gt h2];rfl,rfl⟩
  ·have d2:decide (y<x)=false:=decide_eq_false h2
   go_enter Tryz.func230,Tryz.ntmps230
   go_wp2
   go_ret
   exact ⟨by rw [sgnI_eq (by omega)];rfl,rfl⟩
set_option maxHeartbeats 400000 in
theorem cmpU32_calls (x y:Nat) (w:World) :
 Calls Tryz.prog 231 #[.int .u32 x,.int .u32 y] w fun e w'=>e=.returned (.int .i64 (sgn x y))∧w'=w:=by
 by_cases h1:x<y
 ·have d1:decide ((x:Int)<y)=true:=decide_eq_true (by omega)
  go_enter Tryz.func231,Tryz.ntmps231
  go_wp2
  go_ret
  exact ⟨by rw [sgn_lt h1];rfl,rfl⟩
 ·have d1:decide ((x:Int)<y)=false:=decide_eq_false (by omega)
  by_cases h2:y<x
  ·have d2:decide ((y:Int)<x)=true:=decide_eq_true (by omega)
   go_enter Tryz.func231,Tryz.ntmps231
   go_wp2
   go_ret
   exact ⟨by rw [sgn_gt h2];rfl,rfl⟩
  ·have d2:decide ((y:Int)<x)=false:=decide_eq_false (by omega)
   go_enter Tryz.func231,Tryz.ntmps231
   go_wp2
   go_ret
   exact ⟨by rw [sgn_eq (by omega)];rfl,rfl⟩
theorem cmpU32_q (x y:Nat) (w:World) (n m:Nat) :
 Calls Tryz.prog 231 #[.int .u32 x,.int .u32 y] (w.drewN (n+m)) fun e w'=>e=.returned (.int .i64 (sgn x y))∧∃ m,w'=w.drewN (n+m) :=
 (cmpU32_calls x y _).mono fun e w' ⟨he,hw⟩=>⟨he,m,hw⟩
theorem nthd_eq_drop {a b:List Nat} {i:Nat} (ha:i<a.length) (hb:i<b.length) (h:nthd a i=nthd b i) (hd:a.drop (i+1)=b.drop (i+1)):a.drop i=b.drop i:=by
 rw [drop_nthd ha,drop_nthd hb,h,hd]
set_option maxHeartbeats 1000000 in
theorem compare_calls (A B:Option Addr) (ca cb:Nat) (n m:Nat) (w:World) (hn:(digits n).length≤maxLen) (hm:(digits m).length≤maxLen) (hA:Wds w A (digits n)) (hB:Wds w B (digits m)) :
 Calls Tryz.prog 208 #[.slice A (digits n).length ca,.slice B (digits m).length cb] w fun e w'=>e=.returned (.int .i64 (sgn n m))∧∃ k,w'=w.drewN k:=by
 unfold maxLen at hn hm
 by_cases hl:(digits n).length<(digits m).length
 ·have hlt:=digits_len_lt hl
  go_enter Tryz.func208,Tryz.ntmps208
  go_wp2_with fail
  refine (cmpInt_calls _ _ _).mono ?_;rw [sgnI_lt (by omega)];rintro e w' ⟨rfl,rfl⟩
  go_wp2
  go_ret
  exact ⟨by rw [sgn_lt hlt];rfl,0,rfl⟩
 ·by_cases hg:(digits m).length<(digits n).length
  ·have hlt:=digits_len_lt hg
   go_enter Tryz.func208,Tryz.ntmps208
   go_wp2_with fail
   refine (cmpInt_calls _ _ _).mono ?_;rw [sgnI_gt (by omega)];rintro e w' ⟨rfl,rfl⟩
   go_wp2
   go_ret
   exact ⟨by rw [sgn_gt hlt];rfl,0,rfl⟩
  ·have he:(digits n).length=(digits m).length:=by omega
   have HE:=hid he;clear he
   go_enter Tryz.func208,Tryz.ntmps208
   go_wp2_with fail
   refine (cmpInt_calls _ _ _).mono ?_;rw [sgnI_eq (by omega)];rintro e w' ⟨rfl,rfl⟩
   go_wp2
   go_loopw [6] (fun i wr=>∃ j k:Nat,j≤(digits n).length∧i=.int .i64 ((j:Int)-1)∧(digits n).drop j=(digits m).drop j∧wr=w'.drewN k) (fun i _=>(intOf i+1).toNat)
   case atStart=>exact ⟨(digits n).length,0,Nat.le_refl _,rfl,by rw [List.drop_length,HE.out,List.drop_length],rfl⟩
   case round =>
    obtain ⟨j,k,hj,rfl,hdr,rfl⟩:=hrel
    have HD:=hid hdr;clear hdr
    cases j with
    | zero =>
      rw [show ((0:Nat):Int)-1 = -1 from rfl]
      have hnm:n=m:=by
       have:=HD.out
       rw [List.drop_zero,List.drop_zero] at this
       rw [←val_digits n,this,val_digits]
      have HN:=hid hnm;clear hnm
      go_wp2
      go_ret
      exact ⟨by rw [sgn_eq HN.out];rfl,_,rfl⟩
    | succ j =>
      rw [show ((j+1:Nat):Int)-1=j from by omega]
      obtain ⟨b1,o1,rfl,g1⟩:=hA j (by omega)
      obtain ⟨b2,o2,rfl,g2⟩:=hB j (by have:=HE.out;omega)
      have hj0:(0:Int)≤j:=by omega
      have hj1:(j:Int)<(digits n).length:=by omega
      have hj2:(j:Int)<(digits m).length:=by have:=HE.out;omega
      by_cases hq:nthd (digits n) j=nthd (digits m) j
      ·have q1:((nthd (digits n) j:Int) != (nthd (digits m) j:Int))=false:=by simp;omega
       have HQ:=hid hq;clear hq
       go_wp2_with fail
       go_quiet (fail)
       go_wp2
       go_roundw
       case rel=>exact ⟨j,_,by omega,rfl,nthd_eq_drop (by omega) (by have:=HE.out;omega) HQ.out HD.out,by first|rfl|exact drewN_add _ _ _⟩
       case measure=>simp [intOf]
      ·have q1:((nthd (digits n) j:Int) != (nthd (digits m) j:Int))=true:=by simp;omega
       have hs:sgn (nthd (digits n) j) (nthd (digits m) j)=sgn n m:=by
        by_cases hlt:nthd (digits n) j<nthd (digits m) j
        ·have:=val_lt_of (digits_dig n) HE.out (by omega) HD.out hlt
         rw [val_digits,val_digits] at this
         rw [sgn_lt hlt,sgn_lt this]
        ·have:=val_lt_of (digits_dig m) HE.out.symm (by have:=HE.out;omega) HD.out.symm (by omega:nthd (digits m) j<nthd (digits n) j)
         rw [val_digits,val_digits] at this
         rw [sgn_gt (by omega),sgn_gt this]
       have HS:=hid hs;clear hs hq
       go_wp2_with fail
       go_quiet (fail)
       go_wp2_with fail
       go_quiet ((go_at_call 231;exact cmpU32_q _ _ _ _ _))
       go_wp2
       go_ret
       exact ⟨by rw [HS.out];rfl,_,by first|rfl|simp [drewN_add];rfl⟩
end
section
open Go.RowKit
def Rds (w:World) (A:Option Addr) (ds:List Nat):Prop :=
 ∀ i,i<ds.length→∃ b off,A=some ⟨b,off,none⟩∧w.cell? ⟨b,off+i,none⟩=some (.int .i64 (nthd ds i:Nat))
theorem Rds.ext {w w':World} {A:Option Addr} {ds:List Nat} (h:Rds w A ds) (hb:Below w.heap.size w w'):Rds w' A ds:=fun i hi=>by
 obtain ⟨b,off,e,hc⟩:=h i hi
 exact ⟨b,off,e,by rw [hb.cell (cell_lt hc)];exact hc⟩
def OwnD (w:World) (base:Nat) (v:Value) (ds:List Nat):Prop:=w.ownsRow base 3 1 v ds.length (ds.map fun d=>Value.int .i64 (d:Nat))
def RSl (w:World) (v:Value) (ds:List Nat):Prop:=∃ A c,v=.slice A ds.length c∧ds.length≤c∧c≤maxLen∧Rds w A ds
theorem RSl.ext {w w':World} {v:Value} {ds:List Nat} (h:RSl w v ds) (hb:Below w.heap.size w w'):RSl w' v ds:=by
 obtain ⟨A,c,h1,h2,h3,h4⟩:=h;exact ⟨A,c,h1,h2,h3,h4.ext hb⟩
theorem OwnD.rsl {w:World} {base:Nat} {v:Value} {ds:List Nat} (h:OwnD w base v ds):RSl w v ds:=by
 rcases id h.2 with ⟨rfl,h0⟩|⟨g,cap,cur,rfl,hg,hh,hc,hm,-⟩
 ·have:ds=[]:=List.length_eq_zero_iff.1 h0
  subst this
  exact ⟨none,0,rfl,Nat.le_refl _,Nat.zero_le _,fun i hi=>by simp at hi⟩
 ·refine ⟨_,cap,rfl,hc,hm,fun i hi=>⟨g,0,rfl,?_⟩⟩
  have e:(ds.map fun d=>Value.int .i64 (d:Nat))[i]? = some (Value.int .i64 (nthd ds i:Nat)):=by simp [nthd_lt hi,hi]
  rw [Nat.zero_add,h.cellAt i (by omega),e]
theorem OwnD.nil (w:World) (base:Nat):OwnD w base (.slice none 0 0) []:=World.ownsRow_nil w base _ _
set_option maxHeartbeats 1000000 in
theorem rtrim_calls (A:Option Addr) (c:Nat) (ds:List Nat) (w:World) (hm:ds.length≤10000000000000) (hA:Rds w A ds) :
 Calls Tryz.prog 152 #[.slice A ds.length c] w fun e w'=>∃ v,e=.returned v∧OwnD w' w.heap.size v (T.trimL ds)∧Below w.heap.size w w':=by
 obtain ⟨i0,hi,hz0,hz1,hz2⟩:=info_parts infoInt
 obtain ⟨n0,hn0⟩:∃ n0,(T.trimL ds).length=n0:=⟨_,rfl⟩
 have hz:∀ i,n0≤i→nthd ds i=0:=fun i h=>T.trim_zero ds i (by omega)
 have hl:∀ m,n0=m+1→nthd ds m≠0:=fun m h=>T.trim_last ds m (by omega)
 have ht:ds.take n0=T.trimL ds:=by rw [←hn0];exact T.trim_take ds
 have hle:n0≤ds.length:=by rw [←hn0];exact T.trim_len ds
 obtain ⟨N,HNN⟩:∃ N,Hid (N=n0):=⟨n0,rfl⟩
 have HTN:Hid (ds.take N=T.trimL ds):=hid (by rw [HNN.out];exact ht)
 have HLE:Hid (N≤ds.length):=hid (by rw [HNN.out];exact hle)
 have HZ:=hid hz;have HL:=hid hl
 clear hz hl ht hn0
 go_enter Tryz.func152,Tryz.ntmps152
 go_wp2
 go_loop [3] (fun i=>∃ n:Nat,n0≤n∧n≤ds.length∧i=.int .i64 n) (fun i=>(intOf i).toNat)
 case atStart=>exact ⟨ds.length,hle,Nat.le_refl _,rfl⟩
 case round =>
  obtain ⟨n,hn1,hn2,rfl⟩:=hrel
  by_cases hgt:n0<n
  ·obtain ⟨k,rfl⟩:∃ k,n=k+1:=⟨n-1,by omega⟩
   obtain ⟨b,off,rfl,g⟩:=hA k (by omega)
   rw [HZ.out k (by omega)] at g
   have ec:((k+1:Nat):Int)=(k:Int)+1:=by push_cast;rfl
   rw [ec]
   clear ec
   have hkl:(k:Int)<ds.length:=by omega
   go_wp2
   go_round
   case rel=>exact ⟨k,by omega,by omega,by go_num⟩
   case measure=>simp [intOf]<;>omega
  ·obtain rfl:n=n0:=by omega
   have hcase:(n=0)∨∃ k b off,n=k+1∧A=some ⟨b,off,none⟩∧w.cell? ⟨b,off+k,none⟩=some (.int .i64 (nthd ds k:Nat))∧((nthd ds k:Int) == 0)=false:=by
    cases n with
    | zero=>exact .inl rfl
    | succ k =>
      obtain ⟨b,off,e,g⟩:=hA k (by omega)
      exact .inr ⟨k,b,off,rfl,e,g,by have:=HL.out k rfl;simp;omega⟩
   rcases hcase with rfl|⟨k,b,off,rfl,rfl,g,q⟩
   ·go_wp2
    go_loopw [4,5] (fun v i wr=>∃ j:Nat,j≤N∧i=.int .i64 j∧OwnD wr w.heap.size v (ds.take j)∧Below w.heap.size w wr) (fun _ i _=>N-(intOf i).toNat)
    case atStart=>exact ⟨0,Nat.zero_le _,rfl,OwnD.nil _ _,Below.refl _ _⟩
    case round =>
     obtain ⟨j,hj,rfl,hown,hbe⟩:=hrel
     have hnn:=HNN.out
     have hln:=HLE.out
     obtain rfl:j=N:=by omega
     obtain rfl:j=0:=hnn
     clear hA HL HZ
     go_wp2
     go_ret
     exact ⟨_,rfl,by rw [←HTN.out];exact hown,hbe⟩
   ·rw [show ((k+1:Nat):Int)=(k:Int)+1 from by push_cast;rfl]
    have hkl:(k:Int)<ds.length:=by omega
    go_wp2
    go_loopw [4,5] (fun v i wr=>∃ j:Nat,j≤N∧i=.int .i64 j∧OwnD wr w.heap.size v (ds.take j)∧Below w.heap.size w wr) (fun _ i _=>N-(intOf i).toNat)
    case atStart=>exact ⟨0,Nat.zero_le _,rfl,OwnD.nil _ _,Below.refl _ _⟩
    case round =>
     obtain ⟨j,hj,rfl,hown,hbe⟩:=hrel
     have hnn:=HNN.out
     have hln:=HLE.out
     by_cases hlt:j<N
     ·obtain ⟨b1,o1,e1,g1⟩:=(hA.ext hbe) j (by omega)
      have hlen:(ds.take j).length=j:=by rw [List.length_take];omega
      have htk:ds.take (j+1)=ds.take j ++ [nthd ds j]:=T.take_nthd (by omega)
      unfold OwnD at hown
      rw [hlen] at hown
      have HTK:=hid htk;have HLEN:=hid hlen
      clear htk hlen hA HL HZ
      injection e1 with e1;injection e1 with e2 e3;subst e2;subst e3
      have h2:(j:Int)<ds.length:=by omega
      have h3:(j:Int)<k+1:=by omega
      clear hnn hln
      go_wp2_with (at_builtin;refine wpList_append_own _ rfl _ _ 23 rfl w.heap.size 3 i0 (.int .i64 0) 1 8 Tryz.underlying23 hi hz0 hz1 hz2 rfl (by decide) _ _ _ rfl (hown.alloc _) ⟨wr.heap.size,0,none⟩ 1 1 [.int .i64 (nthd ds j:Nat)] rfl rfl ?qc2 ?qc3 ?qc4 ?qc5 ?qc6 ?_)
      case qc3=>rfl
      case qc4=>unfold maxLen;omega
      case qc5=>omega
      case qc6=>exact Nat.le_trans hbe.size (by simp)
      intro v' w1 hown1 hgrow _
      have hb:=(hbe.alloc hbe.size _).grown hgrow (by have:=hbe.size;simp;omega) (fun k hk=>(hown.lt k hk).1)
      have HB:=hid hb
      have HO:Hid (OwnD w1 w.heap.size v' (ds.take (j+1))):=hid (by unfold OwnD;rw [HTK.out,List.length_append,HLEN.out,List.map_append,List.map_take];exact hown1)
      clear hown hown1 hgrow hb hbe
      go_wp2
      go_roundw
      case rel=>exact ⟨j+1,by omega,by go_num,HO.out,HB.out⟩
      case measure=>simp [intOf];omega
     ·obtain rfl:j=N:=by omega
      have h3:decide ((j:Int)<k+1)=false:=decide_eq_false (by omega)
      clear hA HL HZ hnn hln
      go_wp2
      go_ret
      exact ⟨_,rfl,by rw [←HTN.out];exact hown,hbe⟩
theorem OwnD.set {w:World} {base:Nat} {v:Value} {ds:List Nat} (h:OwnD w base v ds) (a:Addr) (x:Value) (ha:a.block<base):OwnD (w.setCell a x) base v ds:=by
 refine ⟨h.1,?_⟩
 rcases h.2 with hn|⟨g,cap,cur,e,hg,hh,rest⟩
 ·exact .inl hn
 ·exact .inr ⟨g,cap,cur,e,hg,by rw [Below.heap_setCell _ _ _ _ (by omega)];exact hh,rest⟩
def RB (w:World) (v:Value) (z:Int):Prop:=∃ sl,v=.agg #[.bool (decide (z<0)),sl]∧RSl w sl (T.digits z.natAbs)
theorem RB.ext {w w':World} {v:Value} {z:Int} (h:RB w v z) (hb:Below w.heap.size w w'):RB w' v z:=by
 obtain ⟨sl,h1,h2⟩:=h;exact ⟨sl,h1,h2.ext hb⟩
def RBo (w:World) (base:Nat) (v:Value) (z:Int):Prop:=∃ sl,v=.agg #[.bool (decide (z<0)),sl]∧OwnD w base sl (T.digits z.natAbs)
theorem RBo.rb {w:World} {base:Nat} {v:Value} {z:Int} (h:RBo w base v z):RB w v z:=by
 obtain ⟨sl,h1,h2⟩:=h;exact ⟨sl,h1,h2.rsl⟩
theorem OwnD.mono {w:World} {base b2:Nat} {v:Value} {ds:List Nat} (h:OwnD w base v ds) (hb:b2≤base):OwnD w b2 v ds:=by
 refine ⟨h.1,?_⟩
 rcases h.2 with hn|⟨g,cap,cur,e,hg,rest⟩
 ·exact .inl hn
 ·exact .inr ⟨g,cap,cur,e,by omega,rest⟩
theorem RBo.set {w:World} {base:Nat} {v:Value} {z:Int} (h:RBo w base v z) (a:Addr) (x:Value) (ha:a.block<base):RBo (w.setCell a x) base v z:=by
 obtain ⟨sl,h1,h2⟩:=h;exact ⟨sl,h1,h2.set a x ha⟩
def sgnd (neg:Bool) (n:Nat):Int:=if neg then -(n:Int) else n
theorem sgnd_abs (neg:Bool) (n:Nat):(sgnd neg n).natAbs=n:=by unfold sgnd;split<;>simp
theorem sgnd_neg (neg:Bool) (n:Nat):decide (sgnd neg n<0)=(neg && decide (0<n)):=by
 unfold sgnd;cases neg<;>simp<;>omega
theorem digits_some (n:Nat):decide ((0:Int)<(T.digits n).length)=decide (0<n):=by
 by_cases h:n=0
 ·subst h;rw [T.digits_zero];rfl
 ·rw [T.digits_pos h];simp;omega
set_option maxRecDepth 100000 in
set_option maxHeartbeats 1000000 in
theorem rwhole_calls (neg:Bool) (A:Option Addr) (c:Nat) (ds:List Nat) (w:World) (hm:ds.length≤10000000000000) (hd:T.Dig ds) (hA:Rds w A ds) :
 Calls Tryz.prog 103 #[.bool neg,.slice A ds.length c] w fun e w'=>∃ v,e=.returned v∧RBo w' w.heap.size v (sgnd neg (T.val ds))∧Below w.heap.size w w':=by
 have hb0:∀ o,Below w.heap.size w (w.alloc o):=fun o=>(Below.refl _ _).alloc (Nat.le_refl _) _
 have htr:∀ o,_:=fun o=>rtrim_calls A c ds (w.alloc o) hm (hA.ext (hb0 o))
 rw [T.trimL_digits hd] at htr
 obtain ⟨n,hn⟩:∃ n,T.val ds=n:=⟨_,rfl⟩
 rw [hn] at htr ⊢
 have hs:=sgnd_neg neg n
 have ha:=sgnd_abs neg n
 have hds:=digits_some n
 have HS:=hid hs;have HA:=hid ha;have HD:=hid hds
 have B0:=Blk.new w [.bool false,.slice none 0 0] 61
 clear hs ha hds hn hd hA hm
 go_enter Tryz.func103,Tryz.ntmps103
 go_wp2_with fail
 refine (htr _).mono ?_;rintro e w1 ⟨v,rfl,ho,hb1⟩
 have hsz1:=hb1.size
 have B1:=B0.ext hb1
 have HX:=hid (ext_trans (hb0 _) hb1)
 have bl1:=B1.lt
 have c0:=B1.cell 0 (by simp);have c1:=B1.cell 1 (by simp)
 have f0:=B1.free 0;have f1:=B1.free 1
 simp only [List.getElem_cons_zero,List.getElem_cons_succ] at c0 c1
 obtain ⟨A1,k1,rfl,h2,h3,-⟩:=ho.rsl
 have HO:=hid ho
 have hl2:((T.digits n).length:Int)≤9223372036854775807:=by unfold maxLen at h3;omega
 have HF:Hid (decide (0<n)=decide ((0:Int)<(T.digits n).length)):=hid HD.out.symm
 obtain ⟨L,hL⟩:∃ L,(T.digits n).length=L:=⟨_,rfl⟩
 have HLL:=hid hL
 rw [hL] at hl2 ⊢
 clear htr hb0 hb1 B0 ho h2 h3 hL HD
 have fin:∀ q:Bool,Hid (q=(neg && decide (0<n)))→RBo ((w1.setCell ⟨w.heap.size,0,none⟩ (.bool q)).setCell ⟨w.heap.size,1,none⟩ (.slice A1 L k1)) w.heap.size (.agg #[.bool q,.slice A1 L k1]) (sgnd neg n):=fun q hq=>by
  refine ⟨.slice A1 L k1,by rw [HS.out,hq.out],?_⟩
  rw [HA.out]
  have ho:=HO.out
  rw [HLL.out] at ho
  exact ((ho.set _ _ (by simp)).set _ _ (by simp)).mono (by simp)
 have FIN:=hid fin
 clear fin HO HS HA
 have hbe:Hid (∀ q:Bool,Below w.heap.size w ((w1.setCell ⟨w.heap.size,0,none⟩ (.bool q)).setCell ⟨w.heap.size,1,none⟩ (.slice A1 L k1))):=hid fun q=>(HX.out.setCell (Nat.le_refl _) _).setCell (Nat.le_refl _) _
 clear hsz1
 cases neg with
 | false =>
   go_wp2_with fail
   try simp only [Exit.inBlock,Exit.then]
   refine bodyPost_ret (v:=.agg #[.bool false,.slice A1 L k1]) (by simp [results,Tryz.results103,go_sem,bl1,c0,c1]) rfl ⟨_,rfl,FIN.out false rfl,hbe.out false⟩
 | true =>
   have hq2:Hid (decide (0<L)=(true && decide (0<n))):=hid (by rw [HF.out,HLL.out];simp)
   go_wp2_with fail
   try simp only [Exit.inBlock,Exit.then]
   refine bodyPost_ret (v:=.agg #[.bool (decide (0<L)),.slice A1 L k1]) (by simp [results,Tryz.results103,go_sem,bl1,c0,c1]) rfl ⟨_,rfl,FIN.out _ hq2,hbe.out _⟩
end
end Go.Proofs.YtkljafmdbajfeaaGreatDoor
