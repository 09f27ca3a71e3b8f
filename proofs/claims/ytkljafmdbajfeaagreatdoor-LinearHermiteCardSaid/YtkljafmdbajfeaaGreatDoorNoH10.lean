/- The sums of products: linear.dot, branch.dot, tinplateref02.dot; no sum overflows where the products are small. -/
import Derived.Deep.Light
import Derived.Test.YtkljafmdbajfeaaGreatDoorNoH00
import Derived.Test.YtkljafmdbajfeaaGreatDoorNoH06
import Derived.Test.YtkljafmdbajfeaaGreatDoorNoH07
namespace Go.Proofs.YtkljafmdbajfeaaGreatDoor
set_option linter.unusedVariables false
set_option linter.unusedSimpArgs false
open Go.Lib (hid)
section
open Go.RowKit
end
section
open Go.RowKit
def gcdN (d:Int) (xs:List Int):Nat→Nat
 | 0=>d.natAbs
 | k+1=>Nat.gcd (gcdN d xs k) (nth xs k).natAbs
theorem gcdN_pos {d:Int} (h:1≤d) (xs:List Int):∀ k,1≤gcdN d xs k
 | 0=>by simp [gcdN];omega
 | k+1=>Nat.gcd_pos_of_pos_left _ (gcdN_pos h xs k)
theorem gcdN_le {d:Int} (h:1≤d) (xs:List Int):∀ k,gcdN d xs k≤d.natAbs
 | 0=>Nat.le_refl _
 | k+1=>Nat.le_trans (Nat.gcd_le_left _ (gcdN_pos h xs k)) (gcdN_le h xs k)
def divK (g:Int) (xs:List Int) (k:Nat):List Int:=(xs.take k).map (fun x=>x.tdiv g) ++ xs.drop k
theorem divK_len (g:Int) (xs:List Int) (k:Nat) (hk:k≤xs.length):(divK g xs k).length=xs.length:=by simp [divK];omega
theorem divK_nth (g:Int) (xs:List Int) (k:Nat) (hk:k<xs.length):nth (divK g xs k) k=nth xs k:=by
 rw [nth_lt (by rw [divK_len _ _ _ (by omega)];exact hk),nth_lt hk]
 unfold divK
 rw [List.getElem_append_right (by simp;omega)];simp [Nat.min_eq_left (Nat.le_of_lt hk)]
theorem divK_set (g:Int) (xs:List Int) (k:Nat) (hk:k<xs.length):(divK g xs k).set k ((nth xs k).tdiv g)=divK g xs (k+1):=by
 unfold divK
 have e:k-(List.map (fun x=>x.tdiv g) (List.take k xs)).length=0:=by simp;omega
 rw [List.set_append_right _ _ (by simp;omega),e,take_nth hk,List.drop_eq_getElem_cons hk]
 simp only [List.set_cons_zero,List.map_append,List.map_cons,List.map_nil,List.append_assoc,List.singleton_append]
theorem divK_all (g:Int) (xs:List Int):divK g xs xs.length=xs.map (fun x=>x.tdiv g):=by simp [divK]
theorem tdiv_bd (x g:Int) (h : -9000000000000000000≤x∧x≤9000000000000000000) : -9000000000000000000≤x.tdiv g∧x.tdiv g≤9000000000000000000:=by
 have:=Int.natAbs_tdiv_le_natAbs x g
 omega
set_option maxHeartbeats 1000000 in
theorem lowest_calls (b c:Nat) (xs:List Int) (d:Int) (w:World) (hx:∀ i,i<xs.length → -9000000000000000000≤nth xs i∧nth xs i≤9000000000000000000) (hd:1≤d) (hd2:d≤9000000000000000000) (hm:xs.length≤1000) (hI:IBlk w b xs) :
 Calls Tryz.prog 101 #[.slice (some ⟨b,0,none⟩) xs.length c,.int .i64 d] w fun e w'=>e=.returned (.agg #[.slice (some ⟨b,0,none⟩) xs.length c,.int .i64 (d.tdiv (gcdN d xs xs.length))])∧IBlk w' b (xs.map (fun x=>x.tdiv (gcdN d xs xs.length)))∧But b w w':=by
 have hG1:=gcdN_pos hd xs xs.length
 have hG2:=gcdN_le hd xs xs.length
 obtain ⟨G,HG⟩:∃ G:Nat,Hid (gcdN d xs xs.length=G):=⟨_,rfl⟩
 rw [HG.out] at hG1 hG2 ⊢
 have hG3:(G:Int)≤d:=by omega
 clear hG2
 go_enter Tryz.func101,Tryz.ntmps101
 go_wp2
 go_loopw [5,7,12] (fun g _ i wr=>∃ (k n:Nat) (gv:Int),k≤xs.length∧i=.int .i64 k∧g=.int .i64 gv∧gv.natAbs=gcdN d xs k ∧ -9000000000000000000≤gv∧gv≤9000000000000000000∧wr=(w.alloc (.cells #[.slice none 0 0,.int .i64 0] 29)).drewN n) (fun _ _ i _=>xs.length-(intOf i).toNat)
 case atStart=>exact ⟨0,0,d,Nat.zero_le _,rfl,rfl,rfl,by omega,by omega,rfl⟩
 case round =>
  obtain ⟨k,n,gv,hk,rfl,rfl,hg,hg1,hg2,rfl⟩:=hrel
  by_cases hlt:k<xs.length
  ·have c1:=hI.cell k hlt
   obtain ⟨x1,x2⟩:=hx k hlt
   have hbl:=Blk.lt hI
   have HG:=hid hg;clear hg
   go_wp2
   obtain ⟨wo,hwo⟩:∃ wo:World,wo=((w.alloc (.cells #[.slice none 0 0,.int .i64 0] 29)).drewN n):=⟨_,rfl⟩
   go_loopw [5,7] (fun g nn wr=>∃ (m:Nat) (gv nv:Int),g=.int .i64 gv∧nn=.int .i64 nv∧Nat.gcd gv.natAbs nv.natAbs=gcdN d xs (k+1) ∧ -9000000000000000000≤gv∧gv≤9000000000000000000 ∧ -9000000000000000000≤nv∧nv≤9000000000000000000∧wr=(w.alloc (.cells #[.slice none 0 0,.int .i64 0] 29)).drewN m) (fun _ nn _=>(intOf nn).natAbs)
   case atStart=>exact ⟨_,gv,nth xs k,rfl,rfl,by rw [HG.out];rfl,hg1,hg2,x1,x2,rfl⟩
   case round =>
    obtain ⟨m,gv,nv,rfl,rfl,hgg,y1,y2,y3,y4,rfl⟩:=hrel
    have HGG:=hid hgg;clear hgg
    by_cases h0:nv=0
    ·subst h0
     go_wp2
     go_roundw
     case rel=>exact ⟨k+1,_,gv,by omega,by go_num,rfl,by rw [←HGG.out];simp,y1,y2,rfl⟩
     case measure=>simp [intOf];omega
    ·have h1:(nv != 0)=true:=by simp [h0]
     have h2:(nv == 0)=false:=by simp [h0]
     have t1:(gv.tmod nv).natAbs<nv.natAbs:=by rw [Int.natAbs_tmod];exact Nat.mod_lt _ (by omega)
     have HT:=hid t1;clear t1
     go_wp2
     go_quiet (fail)
     go_wp2
     go_roundw
     case rel=>exact ⟨_,nv,gv.tmod nv,rfl,rfl,by rw [←HGG.out,Int.natAbs_tmod];rw [Nat.gcd_comm nv.natAbs,←Nat.gcd_rec,Nat.gcd_comm],y3,y4,by have:=HT.out;omega,by have:=HT.out;omega,drewN_add _ _ _⟩
     case measure=>have:=HT.out;simpa [intOf] using this
  ·obtain rfl:k=xs.length:=by omega
   have hbl:=Blk.lt hI
   rw [HG.out] at hg
   have hGc:gv=(G:Int)∨gv = -(G:Int):=by omega
   clear hg hg1 hg2 hlt hk HG
   rcases hGc with rfl|rfl
   all_goals
    go_wp2
    go_loopw [8,29] (fun _ i wr=>∃ (k:Nat),k≤xs.length∧i=.int .i64 k∧IBlk wr b (divK G xs k)∧But b w wr∧Blk wr w.heap.size [.slice none 0 0,.int .i64 0] 29) (fun _ i _=>xs.length-(intOf i).toNat)
    case atStart=>exact ⟨0,Nat.zero_le _,rfl,(hI.alloc _).drewN n,((But.refl _ _).alloc _).ext (drewN_below _ _),(Blk.new _ _ _).drewN n⟩
    case round =>
     obtain ⟨k,hk,rfl,hB,hbut,hQ⟩:=hrel
     by_cases hlt:k<xs.length
     ·have c1:=hB.cell k (by rw [divK_len _ _ _ hk];exact hlt)
      have e1:=divK_nth G xs k hlt
      rw [e1] at c1
      have f1:=Blk.free hB k
      obtain ⟨t1,t2⟩:=tdiv_bd _ G (hx k hlt)
      clear e1
      go_wp2
      go_roundw
      case rel=>exact ⟨k+1,by omega,by go_num,by rw [←divK_set _ _ _ hlt];exact hB.set k _,hbut.set _ _,hQ.other _ _ (by simp;omega)⟩
      case measure=>simp [intOf];omega
     ·obtain rfl:k=xs.length:=by omega
      have q0:=hQ.cell 0 (by simp)
      have q1:=hQ.cell 1 (by simp)
      have f0:=hQ.free 0
      have f1:=hQ.free 1
      obtain ⟨t1,t2⟩:=tdiv_bd d G (by omega)
      simp only [List.getElem_cons_zero,List.getElem_cons_succ] at q0 q1
      go_wp2
      rw [divK_all] at hB
      (try simp only [Exit.inBlock,Exit.then])
      refine bodyPost_ret (v:=.agg #[.slice (some ⟨b,0,none⟩) xs.length c,.int .i64 (d.tdiv G)]) (by simp [results,Tryz.results101,go_sem,q0,q1]) rfl ⟨rfl,?_,?_⟩
      ·exact Blk.other (Blk.other hB _ _ (by simp;omega)) _ _ (by simp;omega)
      ·exact (hbut.setNew (by simp) _).setNew (by simp) _
end
section
open Go.RowKit
theorem inB_bd {m x:Int} (h:inB m x=true) : -m≤x∧x≤m:=by unfold inB at h;simp at h;exact h
theorem listOk_nth {m:Int} {xs:List Int} (h:listOk m xs=true) {i:Nat} (hi:i<xs.length) : -m≤nth xs i∧nth xs i≤m:=by
 unfold listOk at h;rw [List.all_eq_true] at h;exact inB_bd (h _ (nth_mem hi))
end
section
end
section
open Go.RowKit
end
section
open Go.RowKit
set_option maxHeartbeats 400000 in
theorem refWithin_calls (n m:Int) (w:World) (h0:0≤m) (h1:m≤4611686018427387904) :
 Calls Tryz.prog 127 #[.int .i64 n,.int .i64 m] w fun e w'=>e=.returned (.bool (inB m n))∧w'=w:=by
 by_cases h : -m≤n
 ·have hh:decide (-m≤n)=true:=decide_eq_true h
  go_enter Tryz.func127,Tryz.ntmps127
  go_wp2
  go_ret
  exact ⟨by simp [inB,h],rfl⟩
 ·have hh:decide (-m≤n)=false:=decide_eq_false h
  go_enter Tryz.func127,Tryz.ntmps127
  go_wp2
  go_ret
  exact ⟨by simp [inB,show ¬ (-m≤n) by omega],rfl⟩
theorem all_take_false {xs:List Int} {p:Int→Bool} {k:Nat} (hk:k<xs.length) (h:p (nth xs k)=false):xs.all p=false:=by
 rw [List.all_eq_false];exact ⟨nth xs k,nth_mem hk,by simp [h]⟩
theorem all_of_nth {xs:List Int} {p:Int→Bool} (h:∀ i,i<xs.length→p (nth xs i)=true):xs.all p=true:=by
 rw [List.all_eq_true];intro x hx
 obtain ⟨i,hi,rfl⟩:=List.getElem_of_mem hx
 rw [←nth_lt hi];exact h i hi
theorem all_rows_false {l:List (List Int)} {p:List Int→Bool} {k:Nat} (hk:k<l.length) (h:p (nrow l k)=false):l.all p=false:=by
 rw [List.all_eq_false];exact ⟨nrow l k,nrow_mem hk,by simp [h]⟩
theorem all_of_nrow {l:List (List Int)} {p:List Int→Bool} (h:∀ i,i<l.length→p (nrow l i)=true):l.all p=true:=by
 rw [List.all_eq_true];intro x hx
 obtain ⟨i,hi,rfl⟩:=List.getElem_of_mem hx
 rw [←nrow_lt hi];exact h i hi
set_option maxHeartbeats 400000 in
theorem costs_calls (A:Option Addr) (c:Nat) (xs:List Int) (n:Nat) (w:World) (hm:xs.length≤maxLen) (hn:n≤maxLen) (hA:Ints w A xs) :
 Calls Tryz.prog 67 #[.slice A xs.length c,.int .i64 n] w fun e w'=>e=.returned (.bool (decide (xs.length=n) && listOk 1000 xs))∧w'=w:=by
 unfold maxLen at hm hn
 by_cases h:xs.length=n
 ·subst h
  have h2:((xs.length:Int) != (xs.length:Int))=false:=by simp
  go_enter Tryz.func67,Tryz.ntmps67
  go_wp2
  go_loop [5] (fun i=>∃ k:Nat,k≤xs.length∧i=.int .i64 k∧∀ j,j<k→inB 1000 (nth xs j)=true) (fun i=>xs.length-(intOf i).toNat)
  case atStart=>exact ⟨0,Nat.zero_le _,rfl,fun j hj=>by omega⟩
  case round =>
   obtain ⟨k,hk,rfl,hall⟩:=hrel
   by_cases hlt:k<xs.length
   ·obtain ⟨b,o,rfl,g⟩:=hA k hlt
    have HA:=hid hall;clear hall
    cases hb:inB 1000 (nth xs k)
    ·have HB:=hid hb
     go_wp2_with (go_at_call 127;refine (refWithin_calls _ 1000 _ (by omega) (by omega)).mono ?_;rw [HB.out];rintro e w' ⟨rfl,rfl⟩)
     go_ret
     exact ⟨by unfold listOk;rw [all_take_false hlt HB.out];simp,rfl⟩
    ·have HB:=hid hb
     go_wp2_with (go_at_call 127;refine (refWithin_calls _ 1000 _ (by omega) (by omega)).mono ?_;rw [HB.out];rintro e w' ⟨rfl,rfl⟩)
     go_round
     case rel=>exact ⟨k+1,by omega,by go_num,fun j hj=>if e:j=k then by rw [e];exact HB.out else HA.out j (by omega)⟩
     case measure=>simp [intOf];omega
   ·obtain rfl:k=xs.length:=by omega
    have HA:=hid hall;clear hall
    go_wp2
    go_ret
    exact ⟨by unfold listOk;rw [all_of_nth HA.out];simp,rfl⟩
 ·have h2:((xs.length:Int) != (n:Int))=true:=by simp;omega
  have H:=hid h;clear h
  go_enter Tryz.func67,Tryz.ntmps67
  go_wp2
  go_ret
  exact ⟨by simp [H.out],rfl⟩
set_option maxHeartbeats 1000000 in
theorem refRows_calls (A:Option Addr) (c:Nat) (l:List (List Int)) (n:Nat) (w:World) (hm:l.length≤maxLen) (hr:∀ r∈l,r.length≤maxLen) (hn:n≤maxLen) (hA:Grid w A l) :
 Calls Tryz.prog 66 #[.slice A l.length c,.int .i64 n] w fun e w'=>e=.returned (.bool (rowsOk l n))∧w'=w:=by
 unfold maxLen at hm hn
 by_cases h1:1≤n
 ·have d1:decide ((n:Int)<1)=false:=by simp;omega
  by_cases h2:n≤6
  ·have d2:decide (6<(n:Int))=false:=by simp;omega
   by_cases h3:l.length≤6
   ·have d3:decide (6<(l.length:Int))=false:=by simp;omega
    have hE:rowsOk l n=l.all (rowOk n):=by unfold rowsOk;simp [h1,h2,h3]
    have HE:=hid hE;clear hE
    go_enter Tryz.func66,Tryz.ntmps66
    go_wp2
    go_loop [5,6] (fun i _=>∃ k:Nat,k≤l.length∧i=.int .i64 k∧∀ j,j<k→rowOk n (nrow l j)=true) (fun i _=>l.length-(intOf i).toNat)
    case atStart=>exact ⟨0,Nat.zero_le _,rfl,fun j hj=>by omega⟩
    case round =>
     obtain ⟨k,hk,rfl,hall⟩:=hrel
     by_cases hlt:k<l.length
     ·obtain ⟨b,o,R,cR,rfl,g,_,hR⟩:=hA k hlt
      have hrl:=hr _ (nrow_mem hlt)
      unfold maxLen at hrl
      have HA:=hid hall;clear hall
      by_cases hln:(nrow l k).length=n
      ·have e1:(((nrow l k).length:Int) != (n:Int))=false:=by simp [hln]
       have HL:=hid hln;clear hln
       go_wp2
       go_loop [6] (fun i=>∃ t:Nat,t≤n∧i=.int .i64 t∧∀ j,j<t→inB 30 (nth (nrow l k) j)=true) (fun i=>n-(intOf i).toNat)
       case atStart=>exact ⟨0,Nat.zero_le _,rfl,fun j hj=>by omega⟩
       case round =>
        obtain ⟨t,ht,rfl,hat⟩:=hrel
        have HT:=hid hat;clear hat
        by_cases htl:t<n
        ·have htr:t<(nrow l k).length:=by rw [HL.out];exact htl
         obtain ⟨b2,o2,rfl,g2⟩:=hR t htr
         have htr':(t:Int)<((nrow l k).length:Int):=by omega
         cases hb:inB 30 (nth (nrow l k) t)
         ·have HB:=hid hb
          go_wp2_with (go_at_call 127;refine (refWithin_calls _ 30 _ (by omega) (by omega)).mono ?_;rw [HB.out];rintro e w' ⟨rfl,rfl⟩)
          go_ret
          exact ⟨by rw [show rowsOk l n=false from by rw [HE.out];exact all_rows_false hlt (by unfold rowOk listOk;rw [all_take_false htr HB.out];simp)];rfl,rfl⟩
         ·have HB:=hid hb
          go_wp2_with (go_at_call 127;refine (refWithin_calls _ 30 _ (by omega) (by omega)).mono ?_;rw [HB.out];rintro e w' ⟨rfl,rfl⟩)
          go_round
          case rel=>exact ⟨t+1,by omega,by go_num,fun j hj=>if e:j=t then by rw [e];exact HB.out else HT.out j (by omega)⟩
          case measure=>simp [intOf];omega
        ·obtain rfl:t=n:=by omega
         go_wp2
         go_round
         case rel=>exact ⟨k+1,by omega,by go_num,fun j hj=>if e:j=k then by rw [e];unfold rowOk listOk;rw [all_of_nth (by rw [HL.out];exact HT.out)];simp [HL.out] else HA.out j (by omega)⟩
         case measure=>simp [intOf];omega
      ·have e1:(((nrow l k).length:Int) != (n:Int))=true:=by simp;omega
       have HL:=hid hln;clear hln
       go_wp2
       go_ret
       exact ⟨by rw [show rowsOk l n=false from by rw [HE.out];exact all_rows_false hlt (by unfold rowOk;simp [HL.out])];rfl,rfl⟩
     ·obtain rfl:k=l.length:=by omega
      have HA:=hid hall;clear hall
      go_wp2
      go_ret
      exact ⟨by rw [show rowsOk l n=true from by rw [HE.out];exact all_of_nrow HA.out];rfl,rfl⟩
   ·have d3:decide (6<(l.length:Int))=true:=by simp;omega
    go_enter Tryz.func66,Tryz.ntmps66
    go_wp2
    go_ret
    exact ⟨by simp [rowsOk];omega,rfl⟩
  ·have d2:decide (6<(n:Int))=true:=by simp;omega
   go_enter Tryz.func66,Tryz.ntmps66
   go_wp2
   go_ret
   exact ⟨by simp [rowsOk];omega,rfl⟩
 ·have d1:decide ((n:Int)<1)=true:=by simp;omega
  go_enter Tryz.func66,Tryz.ntmps66
  go_wp2
  go_ret
  exact ⟨by simp [rowsOk];omega,rfl⟩
end
section
namespace Lp
def setRow (M:Nat→Nat→Rat) (i:Nat) (u:Nat→Rat):Nat→Nat→Rat:=fun r j=>if r=i then u j else M r j
theorem det_row_lin {k:Nat}:∀ (M:Nat→Nat→Rat) (i:Nat) (a b:Rat) (u v:Nat→Rat),i<k→det k (setRow M i fun j=>a*u j+b*v j)=a*det k (setRow M i u)+b*det k (setRow M i v):=by
 induction k with
 | zero=>intro M i a b u v h;omega
 | succ k ih =>
   intro M i a b u v h
   unfold det
   rw [←sumTo_lin]
   refine sumTo_congr fun c hc=>?_
   cases i with
   | zero =>
     have h1:∀ w,minor (setRow M 0 w) c=minor M c:=fun w=>by funext r j;unfold minor setRow;rw [if_neg (by omega)]
     have h2:∀ w:Nat→Rat,setRow M 0 w 0 c=w c:=fun w=>by unfold setRow;rw [if_pos rfl]
     rw [h1,h1,h1,h2,h2,h2];grind
   | succ i =>
     have h1:∀ w,minor (setRow M (i+1) w) c=setRow (minor M c) i (fun j=>w (skip c j)):=fun w=>by
      funext r j;unfold minor setRow
      by_cases e:r=i
      ·rw [if_pos e,if_pos (by omega)]
      ·rw [if_neg e,if_neg (by omega)]
     have h2:∀ w:Nat→Rat,setRow M (i+1) w 0 c=M 0 c:=fun w=>by unfold setRow;rw [if_neg (by omega)]
     rw [h1,h1,h1,h2,h2,h2,ih _ i a b _ _ (by omega)];grind
theorem det_row_zero {k:Nat} (M:Nat→Nat→Rat) (i:Nat) (h:i<k):det k (setRow M i fun _=>0)=0:=by
 have h1:=det_row_lin M i 0 0 (fun _=>0) (fun _=>0) h
 have e:(fun _:Nat=>(0:Rat)*0+0*0)=fun _=>0:=by funext _;grind
 rw [e] at h1;rw [h1];grind
theorem setRow_self (M:Nat→Nat→Rat) (i:Nat):setRow M i (M i)=M:=by funext r j;unfold setRow;split<;>simp [*]
theorem det_col_zero {k:Nat} (M:Nat→Nat→Rat) (c:Nat) (hc:c<k) (h:∀ r,r<k→M r c=0):det k M=0:=by
 have e:det k M=det k (setCol M c fun r=>0*(0:Rat)+0*0):=det_congr fun r j hr hj=>by
  unfold setCol;split
  ·subst_vars;rw [h r hr];grind
  ·rfl
 rw [e,det_lin M c 0 0 _ _ hc];grind
theorem det_tri {k:Nat}:∀ (M:Nat→Nat→Rat),(∀ r c,r<k→c<r→M r c=0)→(∀ r,r<k→M r r≠0)→det k M≠0:=by
 induction k with
 | zero=>intro M _ _;unfold det;grind
 | succ k ih =>
   intro M h0 h1
   unfold det
   rw [sumTo_one 0 (by omega) fun c hc hne=>by
    have:det k (minor M c)=0:=det_col_zero _ 0 (by omega) fun r hr=>by
     unfold minor skip;rw [if_pos (by omega)];exact h0 _ _ (by omega) (by omega)
    rw [this];grind]
   have h2:=ih (minor M 0) (fun r c hr hc=>by unfold minor skip;rw [if_neg (by omega)];exact h0 _ _ (by omega) (by omega)) fun r hr=>by
    unfold minor skip;rw [if_neg (by omega)];exact h1 _ (by omega)
   have h3:=h1 0 (by omega)
   intro e
   have h4:M 0 0*det k (minor M 0)=0:=by unfold sgnAt at e;grind
   rcases Rat.mul_eq_zero.1 h4 with h|h
   ·exact h3 h
   ·exact h2 h
section
variable {n:Nat} {L:Lt} {R:V→Prop} {p:Nat→Nat} {k:Nat}
structure Piv (n:Nat) (L:Lt) (k:Nat) (p:Nat→Nat) (H:Nat→V):Prop where
 up:∀ i j,i<j→j<k→p i<p j
 row:∀ i,i<k→L (p i)=some (H i)
 all:∀ q r,L q=some r→∃ i,i<k∧p i=q
variable {H:Nat→V}
theorem Piv.rel (h:Piv n L k p H) (hE:Ech n L) (c:Nat):∃ lam:Nat→Rat,∀ v,Gen (From L 0) v→(v c:Rat)=sumTo k fun j=>lam j*(v (p j):Rat):=by
 have hrow:∀ t,t≤k→∃ lam:Nat→Rat,∀ i,k-t≤i→i<k→(H i c:Rat)=sumTo k fun j=>lam j*(H i (p j):Rat):=by
  intro t
  induction t with
  | zero=>intro _;exact ⟨fun _=>0,fun i h1 h2=>by omega⟩
  | succ t ih =>
    intro ht
    obtain ⟨lam,hl⟩:=ih (by omega)
    obtain ⟨s,hs⟩:∃ s,k-(t+1)=s:=⟨_,rfl⟩
    have hd:(H s (p s):Rat)≠0:=by
     have:=hE.pos _ _ (h.row s (by omega))
     intro e
     have:=Rat.intCast_inj.1 (show ((H s (p s):Int):Rat)=((0:Int):Rat) from e)
     omega
    obtain ⟨S,hS⟩:∃ S,(sumTo k fun j=>if j=s then 0 else lam j*(H s (p j):Rat))=S:=⟨_,rfl⟩
    refine ⟨fun j=>if j=s then ((H s c:Rat)-S) / (H s (p s):Rat) else lam j,fun i h1 h2=>?_⟩
    by_cases e:i=s
    ·subst e
     rw [sumTo_split _ i (by omega)]
     have e1:(sumTo k fun j=>if j=i then 0 else (if j=i then ((H i c:Rat)-S) / (H i (p i):Rat) else lam j)*(H i (p j):Rat))=S:=by
      rw [←hS];exact sumTo_congr fun j hj=>by split<;>rfl
     rw [e1]
     show (H i c:Rat)=(if i=i then ((H i c:Rat)-S) / (H i (p i):Rat) else lam i)*(H i (p i):Rat)+S
     rw [if_pos rfl,Rat.div_mul_cancel hd];grind
    ·rw [hl i (by omega) h2]
     refine sumTo_congr fun j hj=>?_
     by_cases e2:j=s
     ·subst e2
      have:H i (p j)=0:=hE.low _ _ (h.row i h2) _ (h.up j i (by omega) h2)
      rw [this];grind
     ·show lam j*(H i (p j):Rat)=(if j=s then ((H s c:Rat)-S) / (H s (p s):Rat) else lam j)*(H i (p j):Rat)
      rw [if_neg e2]
 obtain ⟨lam,hl⟩:=hrow k (Nat.le_refl _)
 refine ⟨lam,fun v hv=>?_⟩
 refine Gen.prop (P:=fun v=>(v c:Rat)=sumTo k fun j=>lam j*(v (p j):Rat)) ?_ ?_ hv
 ·rw [sumTo_zero fun j hj=>by show lam j*((0:Int):Rat)=0;rw [show ((0:Int):Rat)=0 from rfl];grind];rfl
 ·rintro v r d hv ⟨q,-,hq⟩
  obtain ⟨i,hi,rfl⟩:=h.all q r hq
  have hr:r=H i:=Option.some.inj (hq.symm.trans (h.row i hi))
  subst hr
  rw [Rat.intCast_add,Rat.intCast_mul,hv,hl i (by omega) hi,←sumTo_mul,←sumTo_add]
  exact sumTo_congr fun j hj=>by rw [Rat.intCast_add,Rat.intCast_mul];grind
theorem Piv.pick (h:Piv n L k p H) (hE:Ech n L) (hg:∀ i,i<k→Gen R (H i)):∀ t,t≤k→∃ g:Nat→V,(∀ i,i<t→R (g i))∧(∀ i,t≤i→i<k→g i=H i)∧det k (fun r c=>(g r (p c):Rat))≠0:=by
 intro t
 induction t with
 | zero =>
   intro _
   refine ⟨H,fun i hi=>by omega,fun i _ _=>rfl,det_tri _ (fun r c hr hc=>?_) fun r hr e=>?_⟩
   ·rw [hE.low _ _ (h.row r hr) _ (h.up c r hc hr)];rfl
   ·have:=hE.pos _ _ (h.row r hr)
    have:=Rat.intCast_inj.1 (show ((H r (p r):Int):Rat)=((0:Int):Rat) from e)
    omega
 | succ t ih =>
   intro ht
   obtain ⟨g,h1,h2,h3⟩:=ih (by omega)
   refine Classical.byContradiction fun hno=>?_
   have hz:∀ x,R x→det k (setRow (fun r c=>(g r (p c):Rat)) t fun c=>(x (p c):Rat))=0:=fun x hx=>by
    refine Classical.byContradiction fun hd=>hno ⟨fun i=>if i=t then x else g i,fun i hi=>?_,fun i hi hk=>?_,?_⟩
    ·show R (if i=t then x else g i)
     by_cases e:i=t
     ·rw [if_pos e];exact hx
     ·rw [if_neg e];exact h1 i (by omega)
    ·show (if i=t then x else g i)=H i
     rw [if_neg (by omega)];exact h2 i (by omega) hk
    ·rw [det_congr (N:=setRow (fun r c=>(g r (p c):Rat)) t fun c=>(x (p c):Rat)) fun r c hr hc=>by
      unfold setRow;by_cases e:r=t
      ·subst e;simp
      ·simp [e]]
     exact hd
   have hv:∀ v,Gen R v→det k (setRow (fun r c=>(g r (p c):Rat)) t fun c=>(v (p c):Rat))=0:=fun v hv =>
    Gen.prop (P:=fun v=>det k (setRow (fun r c=>(g r (p c):Rat)) t fun c=>(v (p c):Rat))=0) (by
     have:=det_row_zero (fun r c=>(g r (p c):Rat)) t (show t<k by omega)
     exact this) (fun v r d hv hr=>by
     have e:(fun c=>((v (p c)+d*r (p c):Int):Rat))=fun c=>1*(v (p c):Rat)+(d:Rat)*(r (p c):Rat):=by
      funext c;rw [Rat.intCast_add,Rat.intCast_mul];grind
     show det k (setRow _ t fun c=>((v (p c)+d*r (p c):Int):Rat))=0
     rw [e,det_row_lin _ t _ _ _ _ (by omega),hv,hz r hr];grind) hv
   have h4:=hv (H t) (hg t (by omega))
   rw [←h2 t (Nat.le_refl _) (by omega)] at h4
   have e:setRow (fun r c=>(g r (p c):Rat)) t (fun c=>(g t (p c):Rat))=fun r c=>(g r (p c):Rat):=setRow_self (fun r c=>(g r (p c):Rat)) t
   rw [e] at h4
   exact h3 h4
def sumZ:Nat→(Nat→Int)→Int
 | 0,_=>0
 | n+1,f=>sumZ n f+f n
theorem sumZ_cast (f:Nat→Int):∀ n,((sumZ n f:Int):Rat)=sumTo n fun i=>(f i:Rat)
 | 0=>rfl
 | n+1=>by unfold sumZ sumTo;rw [Rat.intCast_add,sumZ_cast f n]
theorem gen_sum {g:Nat→V} {cf:Nat→Int}:∀ t,(∀ i,i<t→R (g i))→Gen R fun x=>sumZ t fun i=>cf i*g i x
 | 0,_=>.zero
 | t+1,h=>(gen_sum t fun i hi=>h i (by omega)).step _ (g t) (cf t) (h t (by omega))
theorem prodTo_allS (k x:Nat):prodTo k (fun _=>x)=x ^ k:=by
 induction k with
 | zero=>rfl
 | succ k ih=>unfold prodTo;rw [ih,Nat.pow_succ]
theorem isI_of {z:Int} {b:Nat} (h:z.natAbs≤b):IsI (z:Rat) b:=⟨z,rfl,h⟩
theorem Piv.size (h:Piv n L k p H) (hE:Ech n L) {B:Nat} (hB:0<B) (hR:∀ r,R r→∀ i,(r i).natAbs≤B) (hgen:∀ x,Gen (From L 0) x↔Gen R x) :
 ∃ D:Int,D≠0∧D.natAbs≤fac k*B ^ k∧(∀ i,i<k→H i (p i) ∣ D) ∧
  ∀ v Y,Gen (From L 0) v→(∀ j,j<k→(v (p j)).natAbs≤Y)→∀ c,D.natAbs*(v c).natAbs≤k*(fac k*B ^ k*Y):=by
 obtain ⟨g,g1,-,g3⟩:=h.pick hE (R:=R) (fun i hi=>(hgen _).1 (Gen.one ⟨p i,Nat.zero_le _,h.row i hi⟩)) k (Nat.le_refl _)
 obtain ⟨N,hN⟩:∃ N:Nat→Nat→Rat,N=fun r c=>(g r (p c):Rat):=⟨_,rfl⟩
 rw [←hN] at g3
 have hNI:∀ r c,r<k→c<k→IsI (N r c) B:=fun r c hr _=>by rw [hN];exact isI_of (hR _ (g1 r hr) _)
 have hdet:∀ M:Nat→Nat→Rat,(∀ r c,r<k→c<k→IsI (M r c) B)→IsI (det k M) (fac k*B ^ k):=fun M hM=>by
  have:=det_int (k:=k) (M:=M) (B:=fun _=>B) hM
  rw [prodTo_allS] at this;exact this
 obtain ⟨D,hD,hDb⟩:=hdet N hNI
 refine ⟨D,fun e=>g3 (by rw [hD,e];rfl),hDb,fun j hj=>?_,fun v Y hv hY c=>?_⟩
 ·have hcf:∀ i,IsI (det k (setCol N j fun r=>if r=i then 1 else 0)) (fac k*B ^ k):=fun i=>hdet _ fun r c hr hc=>by
   unfold setCol;split
   ·show IsI (if r=i then 1 else 0) B
    split
    ·exact (show IsI 1 1 from ⟨1,rfl,by omega⟩).mono (by omega)
    ·exact .zero _
   ·exact hNI r c hr hc
  have hex:∃ cf:Nat→Int,∀ i,det k (setCol N j fun r=>if r=i then 1 else 0)=(cf i:Rat):=⟨fun i=>Classical.choose (hcf i),fun i=>(Classical.choose_spec (hcf i)).1⟩
  obtain ⟨cf,hcf⟩:=hex
  have hv:=gen_sum (R:=R) (g:=g) (cf:=cf) k g1
  obtain ⟨v,hvd⟩:∃ v:V,v=fun x=>sumZ k fun i=>cf i*g i x:=⟨_,rfl⟩
  rw [←hvd] at hv
  have hcol:∀ m,m<k→(v (p m):Rat)=det k (setCol N j fun r=>N r m):=fun m hm=>by
   have e1:det k (setCol N j fun r=>N r m)=det k (setCol N j fun r=>sumTo k fun l=>N l m*(if r=l then 1 else 0)):=det_congr fun r c hr hc=>by
    unfold setCol;split
    ·show N r m=sumTo k fun l=>N l m*if r=l then 1 else 0
     rw [sumTo_one r hr fun i hi hne=>by rw [if_neg (Ne.symm hne)];grind];rw [if_pos rfl];grind
    ·rfl
   rw [e1,det_sum N j hj (fun l=>N l m) (fun r l=>if r=l then 1 else 0) k,hvd]
   show ((sumZ k fun i=>cf i*g i (p m):Int):Rat)=_
   rw [sumZ_cast]
   exact sumTo_congr fun l hl=>by rw [hcf l,Rat.intCast_mul,hN];grind
  have hvj:v (p j)=D:=by
   have:=hcol j hj
   rw [det_setCol_self,hD] at this
   exact Rat.intCast_inj.1 this
  have hvm:∀ m,m<k→m≠j→v (p m)=0:=fun m hm hne=>by
   have h1:=hcol m hm
   rw [det_equal _ j m hj hm (Ne.symm hne) fun r hr=>by unfold setCol;rw [if_pos rfl,if_neg hne]] at h1
   exact Rat.intCast_inj.1 (show ((v (p m):Int):Rat)=((0:Int):Rat) from h1)
  have hD0:D≠0:=fun e=>g3 (by rw [hD,e];rfl)
  obtain ⟨q,hq1,hq2⟩:=first_of (v:=v) ⟨p j,by rw [hvj];exact hD0⟩
  obtain ⟨r,hr1,hr2⟩:=hE.divides ((hgen v).2 hv) q hq2 hq1
  obtain ⟨i,hi,rfl⟩:=h.all q r hr1
  have hij:i=j:=Classical.byContradiction fun hne=>hq1 (hvm i hi hne)
  subst hij
  have e:=Option.some.inj (hr1.symm.trans (h.row i hi))
  subst e
  rw [hvj] at hr2;exact hr2
 ·obtain ⟨lam,hl⟩:=h.rel hE c
  have hmu:∀ j,j<k→IsI (lam j*det k N) (fac k*B ^ k):=fun j hj=>by
   have h1:=cramer N lam (fun r=>(g r c:Rat)) (fun r hr=>by
    have:=hl (g r) ((hgen _).2 (Gen.one (g1 r hr)))
    show (g r c:Rat)=_
    rw [this,hN]) j hj
   rw [←h1]
   refine hdet _ fun r c' hr hc=>?_
   unfold setCol;split
   ·exact isI_of (hR _ (g1 r hr) _)
   ·exact hNI r c' hr hc
  have h2:IsI ((D:Rat)*(v c:Rat)) (k*(fac k*B ^ k*Y)):=by
   rw [hl v hv,←sumTo_mul]
   refine IsI.sum fun j hj=>?_
   have e:(D:Rat)*(lam j*(v (p j):Rat))=lam j*det k N*(v (p j):Rat):=by rw [hD];grind
   rw [e]
   exact (hmu j hj).mul (isI_of (hY j hj))
  obtain ⟨z,hz,hzb⟩:=h2
  have e:D*v c=z:=Rat.intCast_inj.1 (by rw [Rat.intCast_mul,hz])
  rw [←Int.natAbs_mul,e];exact hzb
end
end Lp
end
end Go.Proofs.YtkljafmdbajfeaaGreatDoor
