/- The sums of products: linear.dot, branch.dot, tinplateref02.dot; no sum overflows where the products are small. -/
import Derived.Deep.Light
import Derived.Laws.OwnMore
import Derived.Test.YtkljafmdbajfeaaGreatDoorNoB00
import Derived.Test.YtkljafmdbajfeaaGreatDoorNoB01
import Derived.Test.YtkljafmdbajfeaaGreatDoorNoB04
namespace Go.Proofs.YtkljafmdbajfeaaGreatDoor
set_option linter.unusedVariables false
set_option linter.unusedSimpArgs false
open Go.Lib (hid)
section
open Go.RowKit
def dotN (xs ys:List Int):Nat→Int
 | 0=>0
 | k+1=>dotN xs ys k+nth xs k*nth ys k
def dotZ (xs ys:List Int):Int:=dotN xs ys xs.length
def Small (xs ys:List Int):Prop:=∃ M:Int,xs.length*M≤9000000000000000000∧∀ i,i<xs.length → -M≤nth xs i*nth ys i∧nth xs i*nth ys i≤M
theorem dotN_bound {xs ys:List Int} {M:Int} (h:∀ i,i<xs.length → -M≤nth xs i*nth ys i∧nth xs i*nth ys i≤M):∀ k,k≤xs.length → -(k*M)≤dotN xs ys k∧dotN xs ys k≤k*M
 | 0,_=>by simp [dotN]
 | k+1,hk=>by
   have ih:=dotN_bound h k (by omega)
   have h1:=h k (by omega)
   have e:((k+1:Nat):Int)*M=k*M+M:=by push_cast;rw [Int.add_mul,Int.one_mul]
   rw [e];simp only [dotN];omega
theorem Small.round {xs ys:List Int} (h:Small xs ys) {k:Nat} (hk:k<xs.length) : -9000000000000000000≤nth xs k*nth ys k∧nth xs k*nth ys k≤9000000000000000000 ∧ -9000000000000000000≤dotN xs ys k+nth xs k*nth ys k∧dotN xs ys k+nth xs k*nth ys k≤9000000000000000000:=by
 obtain ⟨M,hM,h⟩:=h
 have h1:=h k hk
 have h2:=dotN_bound h (k+1) (by omega)
 have h0:0≤M:=by omega
 have h3:((k+1:Nat):Int)*M≤xs.length*M:=Int.mul_le_mul_of_nonneg_right (by omega) h0
 have h4:(1:Int)*M≤xs.length*M:=Int.mul_le_mul_of_nonneg_right (by omega) h0
 simp only [dotN] at h2
 omega
set_option maxHeartbeats 400000 in
theorem linDot_calls (A B:Option Addr) (ca cb:Nat) (xs ys:List Int) (w:World) (hl:xs.length≤ys.length) (hm:xs.length≤maxLen) (hA:Ints w A xs) (hB:Ints w B ys) (hs:Small xs ys) :
 Calls Tryz.prog 100 #[.slice A xs.length ca,.slice B ys.length cb] w fun e w'=>e=.returned (.int .i64 (dotZ xs ys))∧∃ n,w'=w.drewN n:=by
 unfold maxLen at hm
 go_enter Tryz.func100,Tryz.ntmps100
 go_wp2
 go_loopw [5,9] (fun s i wr=>∃ (k n:Nat),k≤xs.length∧i=.int .i64 k∧s=.int .i64 (dotN xs ys k)∧wr=w.drewN n) (fun _ i _=>xs.length-(intOf i).toNat)
 case atStart=>exact ⟨0,0,Nat.zero_le _,rfl,rfl,rfl⟩
 case round =>
  obtain ⟨k,n,hk,rfl,rfl,rfl⟩:=hrel
  by_cases hlt:k<xs.length
  ·obtain ⟨b1,o1,rfl,g1⟩:=hA k hlt
   obtain ⟨b2,o2,rfl,g2⟩:=hB k (by omega)
   obtain ⟨r1,r2,r3,r4⟩:=hs.round hlt
   have hlt2:k<ys.length:=by omega
   go_wp2
   go_quiet (fail)
   go_wp2
   go_roundw
   case rel=>exact ⟨k+1,_,by omega,by go_num,rfl,rfl⟩
   case measure=>simp [intOf];omega
  ·obtain rfl:k=xs.length:=by omega
   go_wp2
   go_ret
   exact ⟨rfl,_,rfl⟩
end
section
open Go.RowKit
def gcdN (d:Int) (xs:List Int):Nat→Nat
 | 0=>d.natAbs
 | k+1=>Nat.gcd (gcdN d xs k) (nth xs k).natAbs
theorem gcdN_pos {d:Int} (h:1≤d) (xs:List Int):∀ k,1≤gcdN d xs k
 | 0=>by simp [gcdN];omega
 | k+1=>Nat.gcd_pos_of_pos_left _ (gcdN_pos h xs k)
theorem gcdN_le {d:Int} (h:1≤d) (xs:List Int):∀ k,gcdN d xs k≤d.natAbs
 | 0=>Nat.le_refl _
 | k+1=>Nat.le_trans (Nat.gcd_le_left _ (gcdN_pos h xs k)) (gcdN_le h xs k)
def divK (g:Int) (xs:List Int) (k:Nat):List Int:=(xs.take k).map (fun x=>x.tdiv g) ++ xs.drop k
theorem divK_len (g:Int) (xs:List Int) (k:Nat) (hk:k≤xs.length):(divK g xs k).length=xs.length:=by simp [divK];omega
theorem divK_nth (g:Int) (xs:List Int) (k:Nat) (hk:k<xs.length):nth (divK g xs k) k=nth xs k:=by
 rw [nth_lt (by rw [divK_len _ _ _ (by omega)];exact hk),nth_lt hk]
 unfold divK
 rw [List.getElem_append_right (by simp;omega)];simp [Nat.min_eq_left (Nat.le_of_lt hk)]
theorem divK_set (g:Int) (xs:List Int) (k:Nat) (hk:k<xs.length):(divK g xs k).set k ((nth xs k).tdiv g)=divK g xs (k+1):=by
 unfold divK
 have e:k-(List.map (fun x=>x.tdiv g) (List.take k xs)).length=0:=by simp;omega
 rw [List.set_append_right _ _ (by simp;omega),e,take_nth hk,List.drop_eq_getElem_cons hk]
 simp only [List.set_cons_zero,List.map_append,List.map_cons,List.map_nil,List.append_assoc,List.singleton_append]
theorem divK_all (g:Int) (xs:List Int):divK g xs xs.length=xs.map (fun x=>x.tdiv g):=by simp [divK]
theorem tdiv_bd (x g:Int) (h : -9000000000000000000≤x∧x≤9000000000000000000) : -9000000000000000000≤x.tdiv g∧x.tdiv g≤9000000000000000000:=by
 have:=Int.natAbs_tdiv_le_natAbs x g
 omega
set_option maxHeartbeats 1000000 in
theorem lowest_calls (b c:Nat) (xs:List Int) (d:Int) (w:World) (hx:∀ i,i<xs.length → -9000000000000000000≤nth xs i∧nth xs i≤9000000000000000000) (hd:1≤d) (hd2:d≤9000000000000000000) (hm:xs.length≤1000) (hI:IBlk w b xs) :
 Calls Tryz.prog 101 #[.slice (some ⟨b,0,none⟩) xs.length c,.int .i64 d] w fun e w'=>e=.returned (.agg #[.slice (some ⟨b,0,none⟩) xs.length c,.int .i64 (d.tdiv (gcdN d xs xs.length))])∧IBlk w' b (xs.map (fun x=>x.tdiv (gcdN d xs xs.length)))∧But b w w':=by
 have hG1:=gcdN_pos hd xs xs.length
 have hG2:=gcdN_le hd xs xs.length
 obtain ⟨G,HG⟩:∃ G:Nat,Hid (gcdN d xs xs.length=G):=⟨_,rfl⟩
 rw [HG.out] at hG1 hG2 ⊢
 have hG3:(G:Int)≤d:=by omega
 clear hG2
 go_enter Tryz.func101,Tryz.ntmps101
 go_wp2
 go_loopw [5,7,12] (fun g _ i wr=>∃ (k n:Nat) (gv:Int),k≤xs.length∧i=.int .i64 k∧g=.int .i64 gv∧gv.natAbs=gcdN d xs k ∧ -9000000000000000000≤gv∧gv≤9000000000000000000∧wr=(w.alloc (.cells #[.slice none 0 0,.int .i64 0] 29)).drewN n) (fun _ _ i _=>xs.length-(intOf i).toNat)
 case atStart=>exact ⟨0,0,d,Nat.zero_le _,rfl,rfl,rfl,by omega,by omega,rfl⟩
 case round =>
  obtain ⟨k,n,gv,hk,rfl,rfl,hg,hg1,hg2,rfl⟩:=hrel
  by_cases hlt:k<xs.length
  ·have c1:=hI.cell k hlt
   obtain ⟨x1,x2⟩:=hx k hlt
   have hbl:=Blk.lt hI
   have HG:=hid hg;clear hg
   go_wp2
   obtain ⟨wo,hwo⟩:∃ wo:World,wo=((w.alloc (.cells #[.slice none 0 0,.int .i64 0] 29)).drewN n):=⟨_,rfl⟩
   go_loopw [5,7] (fun g nn wr=>∃ (m:Nat) (gv nv:Int),g=.int .i64 gv∧nn=.int .i64 nv∧Nat.gcd gv.natAbs nv.natAbs=gcdN d xs (k+1) ∧ -9000000000000000000≤gv∧gv≤9000000000000000000 ∧ -9000000000000000000≤nv∧nv≤9000000000000000000∧wr=(w.alloc (.cells #[.slice none 0 0,.int .i64 0] 29)).drewN m) (fun _ nn _=>(intOf nn).natAbs)
   case atStart=>exact ⟨_,gv,nth xs k,rfl,rfl,by rw [HG.out];rfl,hg1,hg2,x1,x2,rfl⟩
   case round =>
    obtain ⟨m,gv,nv,rfl,rfl,hgg,y1,y2,y3,y4,rfl⟩:=hrel
    have HGG:=hid hgg;clear hgg
    by_cases h0:nv=0
    ·subst h0
     go_wp2
     go_roundw
     case rel=>exact ⟨k+1,_,gv,by omega,by go_num,rfl,by rw [←HGG.out];simp,y1,y2,rfl⟩
     case measure=>simp [intOf];omega
    ·have h1:(nv != 0)=true:=by simp [h0]
     have h2:(nv == 0)=false:=by simp [h0]
     have t1:(gv.tmod nv).natAbs<nv.natAbs:=by rw [Int.natAbs_tmod];exact Nat.mod_lt _ (by omega)
     have HT:=hid t1;clear t1
     go_wp2
     go_quiet (fail)
     go_wp2
     go_roundw
     case rel=>exact ⟨_,nv,gv.tmod nv,rfl,rfl,by rw [←HGG.out,Int.natAbs_tmod];rw [Nat.gcd_comm nv.natAbs,←Nat.gcd_rec,Nat.gcd_comm],y3,y4,by have:=HT.out;omega,by have:=HT.out;omega,drewN_add _ _ _⟩
     case measure=>have:=HT.out;simpa [intOf] using this
  ·obtain rfl:k=xs.length:=by omega
   have hbl:=Blk.lt hI
   rw [HG.out] at hg
   have hGc:gv=(G:Int)∨gv = -(G:Int):=by omega
   clear hg hg1 hg2 hlt hk HG
   rcases hGc with rfl|rfl
   all_goals
    go_wp2
    go_loopw [8,29] (fun _ i wr=>∃ (k:Nat),k≤xs.length∧i=.int .i64 k∧IBlk wr b (divK G xs k)∧But b w wr∧Blk wr w.heap.size [.slice none 0 0,.int .i64 0] 29) (fun _ i _=>xs.length-(intOf i).toNat)
    case atStart=>exact ⟨0,Nat.zero_le _,rfl,(hI.alloc _).drewN n,((But.refl _ _).alloc _).ext (drewN_below _ _),(Blk.new _ _ _).drewN n⟩
    case round =>
     obtain ⟨k,hk,rfl,hB,hbut,hQ⟩:=hrel
     by_cases hlt:k<xs.length
     ·have c1:=hB.cell k (by rw [divK_len _ _ _ hk];exact hlt)
      have e1:=divK_nth G xs k hlt
      rw [e1] at c1
      have f1:=Blk.free hB k
      obtain ⟨t1,t2⟩:=tdiv_bd _ G (hx k hlt)
      clear e1
      go_wp2
      go_roundw
      case rel=>exact ⟨k+1,by omega,by go_num,by rw [←divK_set _ _ _ hlt];exact hB.set k _,hbut.set _ _,hQ.other _ _ (by simp;omega)⟩
      case measure=>simp [intOf];omega
     ·obtain rfl:k=xs.length:=by omega
      have q0:=hQ.cell 0 (by simp)
      have q1:=hQ.cell 1 (by simp)
      have f0:=hQ.free 0
      have f1:=hQ.free 1
      obtain ⟨t1,t2⟩:=tdiv_bd d G (by omega)
      simp only [List.getElem_cons_zero,List.getElem_cons_succ] at q0 q1
      go_wp2
      rw [divK_all] at hB
      (try simp only [Exit.inBlock,Exit.then])
      refine bodyPost_ret (v:=.agg #[.slice (some ⟨b,0,none⟩) xs.length c,.int .i64 (d.tdiv G)]) (by simp [results,Tryz.results101,go_sem,q0,q1]) rfl ⟨rfl,?_,?_⟩
      ·exact Blk.other (Blk.other hB _ _ (by simp;omega)) _ _ (by simp;omega)
      ·exact (hbut.setNew (by simp) _).setNew (by simp) _
end
section
open Go.RowKit
def pointOk (n:Nat) (xs:List Int) (d:Int):Bool:=decide (xs.length=n) && decide (1≤d) && decide (d≤1125899906842624) && listOk 1125899906842624 xs
set_option maxHeartbeats 400000 in
theorem proper_calls (A:Option Addr) (c:Nat) (xs:List Int) (d:Int) (n:Nat) (w:World) (hm:xs.length≤maxLen) (hn:n≤maxLen) (hA:Ints w A xs) :
 Calls Tryz.prog 97 #[.agg #[.slice A xs.length c,.int .i64 d],.int .i64 n] w fun e w'=>e=.returned (.bool (pointOk n xs d))∧Below w.heap.size w w':=by
 have hn':=hn;unfold maxLen at hn'
 have hm':=hm;unfold maxLen at hm'
 have hb0:∀ o,Below w.heap.size w (w.alloc o):=fun o=>(Below.refl _ _).alloc (Nat.le_refl _) _
 by_cases h1:xs.length=n
 ·have d1:((xs.length:Int) == (n:Int))=true:=by simp [h1]
  have H1:=hid h1;clear h1
  by_cases h2:1≤d
  ·by_cases h3:d≤1125899906842624
   ·go_enter Tryz.func97,Tryz.ntmps97
    go_wp2_with (go_at_call 88;refine (listed_calls _ _ xs 1125899906842624 _ hm (by omega) (by omega) (hA.ext (hb0 _))).mono ?_;rintro e w1 ⟨rfl,hb1⟩)
    go_ret
    exact ⟨by simp [pointOk,H1.out,h2,h3],ext_trans (hb0 _) hb1⟩
   ·have d3:decide (d≤1125899906842624)=false:=decide_eq_false h3
    go_enter Tryz.func97,Tryz.ntmps97
    go_wp2
    go_ret
    exact ⟨by simp [pointOk,d3],hb0 _⟩
  ·have d2:decide (1≤d)=false:=decide_eq_false h2
   go_enter Tryz.func97,Tryz.ntmps97
   go_wp2
   go_ret
   exact ⟨by simp [pointOk,d2],hb0 _⟩
 ·have d1:((xs.length:Int) == (n:Int))=false:=by simp;omega
  have H1:=hid h1;clear h1
  go_enter Tryz.func97,Tryz.ntmps97
  go_wp2
  go_ret
  exact ⟨by simp [pointOk,H1.out],hb0 _⟩
theorem inB_bd {m x:Int} (h:inB m x=true) : -m≤x∧x≤m:=by unfold inB at h;simp at h;exact h
theorem listOk_nth {m:Int} {xs:List Int} (h:listOk m xs=true) {i:Nat} (hi:i<xs.length) : -m≤nth xs i∧nth xs i≤m:=by
 unfold listOk at h;rw [List.all_eq_true] at h;exact inB_bd (h _ (nth_mem hi))
end
section
end
section
open Go.RowKit
end
section
open Go.RowKit
end
end Go.Proofs.YtkljafmdbajfeaaGreatDoor

namespace Go.Proofs.YtkljafmdbajfeaaGreatDoor.T
def val:List Nat→Nat
 | []=>0
 | d :: ds=>d+10000*val ds
def digits (n:Nat):List Nat:=if h:n=0 then [] else n % 10000 :: digits (n / 10000)
termination_by n
decreasing_by exact Nat.div_lt_self (by omega) (by omega)
def Dig (ds:List Nat):Prop:=∀ d∈ds,d<10000
def trimL:List Nat→List Nat
 | []=>[]
 | d :: ds=>if d=0∧trimL ds=[] then [] else d :: trimL ds
def nthd (ds:List Nat) (i:Nat):Nat:=ds.getD i 0
theorem digits_zero:digits 0=[]:=by unfold digits;simp
theorem digits_pos {n:Nat} (h:n≠0):digits n=n % 10000 :: digits (n / 10000):=by rw [digits,dif_neg h]
theorem digits_nil {n:Nat} (h:digits n=[]):n=0:=by
 by_cases h0:n=0
 ·exact h0
 ·rw [digits_pos h0] at h;simp at h
theorem val_digits:∀ n,val (digits n)=n:=by
 intro n
 induction n using Nat.strongRecOn with
 | _ n ih =>
   by_cases h:n=0
   ·subst h;rw [digits_zero];rfl
   ·rw [digits_pos h,val,ih _ (Nat.div_lt_self (by omega) (by omega))];omega
theorem digits_dig:∀ n,Dig (digits n):=by
 intro n
 induction n using Nat.strongRecOn with
 | _ n ih =>
   by_cases h:n=0
   ·subst h;rw [digits_zero];intro d hd;simp at hd
   ·rw [digits_pos h];intro d hd
    rcases List.mem_cons.1 hd with rfl|hd
    ·exact Nat.mod_lt _ (by omega)
    ·exact ih _ (Nat.div_lt_self (by omega) (by omega)) d hd
theorem trimL_digits:∀ {ds:List Nat},Dig ds→trimL ds=digits (val ds)
 | [],_=>by rw [val,digits_zero];rfl
 | d :: ds,h=>by
   have hd:=h d (by simp)
   have ih:=trimL_digits (ds:=ds) fun x hx=>h x (List.mem_cons_of_mem _ hx)
   rw [trimL,val,ih]
   by_cases h0:d+10000*val ds=0
   ·rw [h0,digits_zero,if_pos ⟨by omega,by rw [show val ds=0 by omega,digits_zero]⟩]
   ·rw [digits_pos h0,if_neg (fun ⟨e1,e2⟩=>h0 (by have:=digits_nil e2;omega))]
    congr 1
    ·omega
    ·congr 1;omega
theorem Dig.nth {ds:List Nat} (h:Dig ds) (i:Nat):nthd ds i<10000:=by
 unfold nthd
 by_cases hi:i<ds.length
 ·rw [List.getD_eq_getElem?_getD,List.getElem?_eq_getElem hi];exact h _ (List.getElem_mem hi)
 ·rw [List.getD_eq_getElem?_getD,List.getElem?_eq_none (by omega)];simp
theorem nthd_lt {ds:List Nat} {i:Nat} (h:i<ds.length):nthd ds i=ds[i]:=by unfold nthd;simp [h]
theorem val_append:∀ (a b:List Nat),val (a ++ b)=val a+10000 ^ a.length*val b
 | [],b=>by simp [val]
 | d :: a,b=>by
   simp only [List.cons_append,val,List.length_cons,val_append a b,Nat.pow_succ,Nat.mul_add]
   rw [Nat.mul_comm (10000 ^ a.length) 10000,Nat.mul_assoc,Nat.add_assoc]
theorem val_lt:∀ {ds:List Nat},Dig ds→val ds<10000 ^ ds.length
 | [],_=>by simp [val]
 | d :: ds,h=>by
   have hd:=h d (by simp)
   have ih:=val_lt (ds:=ds) fun x hx=>h x (List.mem_cons_of_mem _ hx)
   rw [val,List.length_cons,Nat.pow_succ];omega
theorem Dig.take {ds:List Nat} (h:Dig ds) (k:Nat):Dig (ds.take k):=fun d hd=>h d (List.mem_of_mem_take hd)
theorem take_nthd {ds:List Nat} {i:Nat} (h:i<ds.length):ds.take (i+1)=ds.take i ++ [nthd ds i]:=by
 rw [List.take_succ_eq_append_getElem h,nthd_lt h]
theorem drop_nthd {ds:List Nat} {i:Nat} (h:i<ds.length):ds.drop i=nthd ds i :: ds.drop (i+1):=by
 rw [List.drop_eq_getElem_cons h,nthd_lt h]
theorem digits_ge:∀ {n:Nat},n≠0→10000 ^ ((digits n).length-1)≤n:=by
 intro n
 induction n using Nat.strongRecOn with
 | _ n ih =>
   intro h0
   rw [digits_pos h0,List.length_cons,Nat.add_sub_cancel]
   by_cases h1:n / 10000=0
   ·rw [h1,digits_zero];simp;omega
   ·have h2:=ih (n / 10000) (Nat.div_lt_self (by omega) (by omega)) h1
    have hl:0<(digits (n / 10000)).length:=by rw [digits_pos h1];simp
    have e:10000 ^ (digits (n / 10000)).length=10000*10000 ^ ((digits (n / 10000)).length-1):=by
     rw [←Nat.pow_succ',Nat.succ_eq_add_one,Nat.sub_add_cancel hl]
    rw [e]
    have:=Nat.mul_le_mul_left 10000 h2
    omega
theorem digits_len_lt {n m:Nat} (h:(digits n).length<(digits m).length):n<m:=by
 have h1:=val_lt (digits_dig n)
 rw [val_digits] at h1
 have h2:=digits_ge (n:=m) (fun e=>by rw [e,digits_zero] at h;simp at h)
 have h3:10000 ^ (digits n).length≤10000 ^ ((digits m).length-1):=Nat.pow_le_pow_right (by omega) (by omega)
 omega
theorem val_lt_of {a b:List Nat} (ha:Dig a) (hl:a.length=b.length) {i:Nat} (hi:i<a.length) (hd:a.drop (i+1)=b.drop (i+1)) (h:nthd a i<nthd b i):val a<val b:=by
 have ea:val a=val (a.take i)+10000 ^ i*val (a.drop i):=by
  have:=val_append (a.take i) (a.drop i);rw [List.take_append_drop] at this;rw [this,List.length_take,Nat.min_eq_left (by omega)]
 have eb:val b=val (b.take i)+10000 ^ i*val (b.drop i):=by
  have:=val_append (b.take i) (b.drop i);rw [List.take_append_drop] at this;rw [this,List.length_take,Nat.min_eq_left (by omega)]
 have hb:=val_lt (ha.take i)
 rw [List.length_take,Nat.min_eq_left (by omega)] at hb
 rw [ea,eb,drop_nthd hi,drop_nthd (by omega:i<b.length),val,val,hd]
 have:10000 ^ i*(nthd a i+10000*val (b.drop (i+1)))+10000 ^ i≤10000 ^ i*(nthd b i+10000*val (b.drop (i+1))):=by
  rw [←Nat.mul_succ];exact Nat.mul_le_mul_left _ (by omega)
 omega
theorem nthd_cons (d:Nat) (ds:List Nat) (i:Nat):nthd (d :: ds) (i+1)=nthd ds i:=rfl
theorem trim_zero:∀ (ds:List Nat) (i:Nat),(trimL ds).length≤i→nthd ds i=0
 | [],i,_=>by simp [nthd]
 | d :: ds,i,h=>by
   by_cases e:d=0∧trimL ds=[]
   ·cases i with
    | zero=>exact e.1
    | succ i=>rw [nthd_cons];exact trim_zero ds i (by rw [e.2];simp)
   ·rw [trimL,if_neg e] at h
    cases i with
    | zero=>simp at h
    | succ i=>rw [nthd_cons];exact trim_zero ds i (by simpa using h)
theorem trim_last:∀ (ds:List Nat) (m:Nat),(trimL ds).length=m+1→nthd ds m≠0
 | [],m,h=>by simp [trimL] at h
 | d :: ds,m,h=>by
   by_cases e:d=0∧trimL ds=[]
   ·rw [trimL,if_pos e] at h;simp at h
   ·rw [trimL,if_neg e] at h
    simp only [List.length_cons,Nat.add_right_cancel_iff] at h
    cases m with
    | zero =>
      have:trimL ds=[]:=List.length_eq_zero_iff.1 h
      intro e2
      exact e ⟨e2,this⟩
    | succ m=>rw [nthd_cons];exact trim_last ds m h
theorem trim_take:∀ ds:List Nat,ds.take (trimL ds).length=trimL ds
 | []=>rfl
 | d :: ds=>by
   by_cases e:d=0∧trimL ds=[]
   ·rw [trimL,if_pos e];rfl
   ·rw [trimL,if_neg e,List.length_cons,List.take_succ_cons,trim_take ds]
theorem trim_len (ds:List Nat):(trimL ds).length≤ds.length:=by
 have:=congrArg List.length (trim_take ds)
 rw [List.length_take] at this;omega
theorem digits_len {n k:Nat} (h:n<10000 ^ k):(digits n).length≤k:=by
 rcases Nat.lt_or_ge k (digits n).length with h1|h1
 ·have h2:=digits_ge (n:=n) (fun e=>by rw [e,digits_zero] at h1;simp at h1)
  have h3:10000 ^ k≤10000 ^ ((digits n).length-1):=Nat.pow_le_pow_right (by omega) (by omega)
  omega
 ·exact h1
end Go.Proofs.YtkljafmdbajfeaaGreatDoor.T

namespace Go.Proofs.YtkljafmdbajfeaaGreatDoor
set_option linter.unusedVariables false
set_option linter.unusedSimpArgs false
open Go.Lib (hid)
section
open Go.RowKit
def Rds (w:World) (A:Option Addr) (ds:List Nat):Prop :=
 ∀ i,i<ds.length→∃ b off,A=some ⟨b,off,none⟩∧w.cell? ⟨b,off+i,none⟩=some (.int .i64 (nthd ds i:Nat))
theorem Rds.ext {w w':World} {A:Option Addr} {ds:List Nat} (h:Rds w A ds) (hb:Below w.heap.size w w'):Rds w' A ds:=fun i hi=>by
 obtain ⟨b,off,e,hc⟩:=h i hi
 exact ⟨b,off,e,by rw [hb.cell (cell_lt hc)];exact hc⟩
def OwnD (w:World) (base:Nat) (v:Value) (ds:List Nat):Prop:=w.ownsRow base 3 1 v ds.length (ds.map fun d=>Value.int .i64 (d:Nat))
def RSl (w:World) (v:Value) (ds:List Nat):Prop:=∃ A c,v=.slice A ds.length c∧ds.length≤c∧c≤maxLen∧Rds w A ds
theorem RSl.ext {w w':World} {v:Value} {ds:List Nat} (h:RSl w v ds) (hb:Below w.heap.size w w'):RSl w' v ds:=by
 obtain ⟨A,c,h1,h2,h3,h4⟩:=h;exact ⟨A,c,h1,h2,h3,h4.ext hb⟩
theorem OwnD.rsl {w:World} {base:Nat} {v:Value} {ds:List Nat} (h:OwnD w base v ds):RSl w v ds:=by
 rcases id h.2 with ⟨rfl,h0⟩|⟨g,cap,cur,rfl,hg,hh,hc,hm,-⟩
 ·have:ds=[]:=List.length_eq_zero_iff.1 h0
  subst this
  exact ⟨none,0,rfl,Nat.le_refl _,Nat.zero_le _,fun i hi=>by simp at hi⟩
 ·refine ⟨_,cap,rfl,hc,hm,fun i hi=>⟨g,0,rfl,?_⟩⟩
  have e:(ds.map fun d=>Value.int .i64 (d:Nat))[i]? = some (Value.int .i64 (nthd ds i:Nat)):=by simp [nthd_lt hi,hi]
  rw [Nat.zero_add,h.cellAt i (by omega),e]
theorem OwnD.nil (w:World) (base:Nat):OwnD w base (.slice none 0 0) []:=World.ownsRow_nil w base _ _
set_option maxHeartbeats 1000000 in
theorem rtrim_calls (A:Option Addr) (c:Nat) (ds:List Nat) (w:World) (hm:ds.length≤10000000000000) (hA:Rds w A ds) :
 Calls Tryz.prog 152 #[.slice A ds.length c] w fun e w'=>∃ v,e=.returned v∧OwnD w' w.heap.size v (T.trimL ds)∧Below w.heap.size w w':=by
 obtain ⟨i0,hi,hz0,hz1,hz2⟩:=info_parts infoInt
 obtain ⟨n0,hn0⟩:∃ n0,(T.trimL ds).length=n0:=⟨_,rfl⟩
 have hz:∀ i,n0≤i→nthd ds i=0:=fun i h=>T.trim_zero ds i (by omega)
 have hl:∀ m,n0=m+1→nthd ds m≠0:=fun m h=>T.trim_last ds m (by omega)
 have ht:ds.take n0=T.trimL ds:=by rw [←hn0];exact T.trim_take ds
 have hle:n0≤ds.length:=by rw [←hn0];exact T.trim_len ds
 obtain ⟨N,HNN⟩:∃ N,Hid (N=n0):=⟨n0,rfl⟩
 have HTN:Hid (ds.take N=T.trimL ds):=hid (by rw [HNN.out];exact ht)
 have HLE:Hid (N≤ds.length):=hid (by rw [HNN.out];exact hle)
 have HZ:=hid hz;have HL:=hid hl
 clear hz hl ht hn0
 go_enter Tryz.func152,Tryz.ntmps152
 go_wp2
 go_loop [3] (fun i=>∃ n:Nat,n0≤n∧n≤ds.length∧i=.int .i64 n) (fun i=>(intOf i).toNat)
 case atStart=>exact ⟨ds.length,hle,Nat.le_refl _,rfl⟩
 case round =>
  obtain ⟨n,hn1,hn2,rfl⟩:=hrel
  by_cases hgt:n0<n
  ·obtain ⟨k,rfl⟩:∃ k,n=k+1:=⟨n-1,by omega⟩
   obtain ⟨b,off,rfl,g⟩:=hA k (by omega)
   rw [HZ.out k (by omega)] at g
   have ec:((k+1:Nat):Int)=(k:Int)+1:=by push_cast;rfl
   rw [ec]
   clear ec
   have hkl:(k:Int)<ds.length:=by omega
   go_wp2
   go_round
   case rel=>exact ⟨k,by omega,by omega,by go_num⟩
   case measure=>simp [intOf]<;>omega
  ·obtain rfl:n=n0:=by omega
   have hcase:(n=0)∨∃ k b off,n=k+1∧A=some ⟨b,off,none⟩∧w.cell? ⟨b,off+k,none⟩=some (.int .i64 (nthd ds k:Nat))∧((nthd ds k:Int) == 0)=false:=by
    cases n with
    | zero=>exact .inl rfl
    | succ k =>
      obtain ⟨b,off,e,g⟩:=hA k (by omega)
      exact .inr ⟨k,b,off,rfl,e,g,by have:=HL.out k rfl;simp;omega⟩
   rcases hcase with rfl|⟨k,b,off,rfl,rfl,g,q⟩
   ·go_wp2
    go_loopw [4,5] (fun v i wr=>∃ j:Nat,j≤N∧i=.int .i64 j∧OwnD wr w.heap.size v (ds.take j)∧Below w.heap.size w wr) (fun _ i _=>N-(intOf i).toNat)
    case atStart=>exact ⟨0,Nat.zero_le _,rfl,OwnD.nil _ _,Below.refl _ _⟩
    case round =>
     obtain ⟨j,hj,rfl,hown,hbe⟩:=hrel
     have hnn:=HNN.out
     have hln:=HLE.out
     obtain rfl:j=N:=by omega
     obtain rfl:j=0:=hnn
     clear hA HL HZ
     go_wp2
     go_ret
     exact ⟨_,rfl,by rw [←HTN.out];exact hown,hbe⟩
   ·rw [show ((k+1:Nat):Int)=(k:Int)+1 from by push_cast;rfl]
    have hkl:(k:Int)<ds.length:=by omega
    go_wp2
    go_loopw [4,5] (fun v i wr=>∃ j:Nat,j≤N∧i=.int .i64 j∧OwnD wr w.heap.size v (ds.take j)∧Below w.heap.size w wr) (fun _ i _=>N-(intOf i).toNat)
    case atStart=>exact ⟨0,Nat.zero_le _,rfl,OwnD.nil _ _,Below.refl _ _⟩
    case round =>
     obtain ⟨j,hj,rfl,hown,hbe⟩:=hrel
     have hnn:=HNN.out
     have hln:=HLE.out
     by_cases hlt:j<N
     ·obtain ⟨b1,o1,e1,g1⟩:=(hA.ext hbe) j (by omega)
      have hlen:(ds.take j).length=j:=by rw [List.length_take];omega
      have htk:ds.take (j+1)=ds.take j ++ [nthd ds j]:=T.take_nthd (by omega)
      unfold OwnD at hown
      rw [hlen] at hown
      have HTK:=hid htk;have HLEN:=hid hlen
      clear htk hlen hA HL HZ
      injection e1 with e1;injection e1 with e2 e3;subst e2;subst e3
      have h2:(j:Int)<ds.length:=by omega
      have h3:(j:Int)<k+1:=by omega
      clear hnn hln
      go_wp2_with (at_builtin;refine wpList_append_own _ rfl _ _ 23 rfl w.heap.size 3 i0 (.int .i64 0) 1 8 Tryz.underlying23 hi hz0 hz1 hz2 rfl (by decide) _ _ _ rfl (hown.alloc _) ⟨wr.heap.size,0,none⟩ 1 1 [.int .i64 (nthd ds j:Nat)] rfl rfl ?qc2 ?qc3 ?qc4 ?qc5 ?qc6 ?_)
      case qc3=>rfl
      case qc4=>unfold maxLen;omega
      case qc5=>omega
      case qc6=>exact Nat.le_trans hbe.size (by simp)
      intro v' w1 hown1 hgrow _
      have hb:=(hbe.alloc hbe.size _).grown hgrow (by have:=hbe.size;simp;omega) (fun k hk=>(hown.lt k hk).1)
      have HB:=hid hb
      have HO:Hid (OwnD w1 w.heap.size v' (ds.take (j+1))):=hid (by unfold OwnD;rw [HTK.out,List.length_append,HLEN.out,List.map_append,List.map_take];exact hown1)
      clear hown hown1 hgrow hb hbe
      go_wp2
      go_roundw
      case rel=>exact ⟨j+1,by omega,by go_num,HO.out,HB.out⟩
      case measure=>simp [intOf];omega
     ·obtain rfl:j=N:=by omega
      have h3:decide ((j:Int)<k+1)=false:=decide_eq_false (by omega)
      clear hA HL HZ hnn hln
      go_wp2
      go_ret
      exact ⟨_,rfl,by rw [←HTN.out];exact hown,hbe⟩
theorem OwnD.set {w:World} {base:Nat} {v:Value} {ds:List Nat} (h:OwnD w base v ds) (a:Addr) (x:Value) (ha:a.block<base):OwnD (w.setCell a x) base v ds:=by
 refine ⟨h.1,?_⟩
 rcases h.2 with hn|⟨g,cap,cur,e,hg,hh,rest⟩
 ·exact .inl hn
 ·exact .inr ⟨g,cap,cur,e,hg,by rw [Below.heap_setCell _ _ _ _ (by omega)];exact hh,rest⟩
def RB (w:World) (v:Value) (z:Int):Prop:=∃ sl,v=.agg #[.bool (decide (z<0)),sl]∧RSl w sl (T.digits z.natAbs)
theorem RB.ext {w w':World} {v:Value} {z:Int} (h:RB w v z) (hb:Below w.heap.size w w'):RB w' v z:=by
 obtain ⟨sl,h1,h2⟩:=h;exact ⟨sl,h1,h2.ext hb⟩
def RBo (w:World) (base:Nat) (v:Value) (z:Int):Prop:=∃ sl,v=.agg #[.bool (decide (z<0)),sl]∧OwnD w base sl (T.digits z.natAbs)
theorem RBo.rb {w:World} {base:Nat} {v:Value} {z:Int} (h:RBo w base v z):RB w v z:=by
 obtain ⟨sl,h1,h2⟩:=h;exact ⟨sl,h1,h2.rsl⟩
theorem OwnD.mono {w:World} {base b2:Nat} {v:Value} {ds:List Nat} (h:OwnD w base v ds) (hb:b2≤base):OwnD w b2 v ds:=by
 refine ⟨h.1,?_⟩
 rcases h.2 with hn|⟨g,cap,cur,e,hg,rest⟩
 ·exact .inl hn
 ·exact .inr ⟨g,cap,cur,e,by omega,rest⟩
def sgnd (neg:Bool) (n:Nat):Int:=if neg then -(n:Int) else n
theorem sgnd_abs (neg:Bool) (n:Nat):(sgnd neg n).natAbs=n:=by unfold sgnd;split<;>simp
theorem sgnd_neg (neg:Bool) (n:Nat):decide (sgnd neg n<0)=(neg && decide (0<n)):=by
 unfold sgnd;cases neg<;>simp<;>omega
theorem digits_some (n:Nat):decide ((0:Int)<(T.digits n).length)=decide (0<n):=by
 by_cases h:n=0
 ·subst h;rw [T.digits_zero];rfl
 ·rw [T.digits_pos h];simp;omega
set_option maxRecDepth 100000 in
set_option maxHeartbeats 1000000 in
theorem rwhole_calls (neg:Bool) (A:Option Addr) (c:Nat) (ds:List Nat) (w:World) (hm:ds.length≤10000000000000) (hd:T.Dig ds) (hA:Rds w A ds) :
 Calls Tryz.prog 103 #[.bool neg,.slice A ds.length c] w fun e w'=>∃ v,e=.returned v∧RBo w' w.heap.size v (sgnd neg (T.val ds))∧Below w.heap.size w w':=by
 have hb0:∀ o,Below w.heap.size w (w.alloc o):=fun o=>(Below.refl _ _).alloc (Nat.le_refl _) _
 have htr:∀ o,_:=fun o=>rtrim_calls A c ds (w.alloc o) hm (hA.ext (hb0 o))
 rw [T.trimL_digits hd] at htr
 obtain ⟨n,hn⟩:∃ n,T.val ds=n:=⟨_,rfl⟩
 rw [hn] at htr ⊢
 have hs:=sgnd_neg neg n
 have ha:=sgnd_abs neg n
 have hds:=digits_some n
 have HS:=hid hs;have HA:=hid ha;have HD:=hid hds
 have B0:=Blk.new w [.bool false,.slice none 0 0] 61
 clear hs ha hds hn hd hA hm
 go_enter Tryz.func103,Tryz.ntmps103
 go_wp2_with fail
 refine (htr _).mono ?_;rintro e w1 ⟨v,rfl,ho,hb1⟩
 have hsz1:=hb1.size
 have B1:=B0.ext hb1
 have HX:=hid (ext_trans (hb0 _) hb1)
 have bl1:=B1.lt
 have c0:=B1.cell 0 (by simp);have c1:=B1.cell 1 (by simp)
 have f0:=B1.free 0;have f1:=B1.free 1
 simp only [List.getElem_cons_zero,List.getElem_cons_succ] at c0 c1
 obtain ⟨A1,k1,rfl,h2,h3,-⟩:=ho.rsl
 have HO:=hid ho
 have hl2:((T.digits n).length:Int)≤9223372036854775807:=by unfold maxLen at h3;omega
 have HF:Hid (decide (0<n)=decide ((0:Int)<(T.digits n).length)):=hid HD.out.symm
 obtain ⟨L,hL⟩:∃ L,(T.digits n).length=L:=⟨_,rfl⟩
 have HLL:=hid hL
 rw [hL] at hl2 ⊢
 clear htr hb0 hb1 B0 ho h2 h3 hL HD
 have fin:∀ q:Bool,Hid (q=(neg && decide (0<n)))→RBo ((w1.setCell ⟨w.heap.size,0,none⟩ (.bool q)).setCell ⟨w.heap.size,1,none⟩ (.slice A1 L k1)) w.heap.size (.agg #[.bool q,.slice A1 L k1]) (sgnd neg n):=fun q hq=>by
  refine ⟨.slice A1 L k1,by rw [HS.out,hq.out],?_⟩
  rw [HA.out]
  have ho:=HO.out
  rw [HLL.out] at ho
  exact ((ho.set _ _ (by simp)).set _ _ (by simp)).mono (by simp)
 have FIN:=hid fin
 clear fin HO HS HA
 have hbe:Hid (∀ q:Bool,Below w.heap.size w ((w1.setCell ⟨w.heap.size,0,none⟩ (.bool q)).setCell ⟨w.heap.size,1,none⟩ (.slice A1 L k1))):=hid fun q=>(HX.out.setCell (Nat.le_refl _) _).setCell (Nat.le_refl _) _
 clear hsz1
 cases neg with
 | false =>
   go_wp2_with fail
   try simp only [Exit.inBlock,Exit.then]
   refine bodyPost_ret (v:=.agg #[.bool false,.slice A1 L k1]) (by simp [results,Tryz.results103,go_sem,bl1,c0,c1]) rfl ⟨_,rfl,FIN.out false rfl,hbe.out false⟩
 | true =>
   have hq2:Hid (decide (0<L)=(true && decide (0<n))):=hid (by rw [HF.out,HLL.out];simp)
   go_wp2_with fail
   try simp only [Exit.inBlock,Exit.then]
   refine bodyPost_ret (v:=.agg #[.bool (decide (0<L)),.slice A1 L k1]) (by simp [results,Tryz.results103,go_sem,bl1,c0,c1]) rfl ⟨_,rfl,FIN.out _ hq2,hbe.out _⟩
end
section
open Go.RowKit
theorem ofD_step {a q:Nat} {ds:List Nat} (h:a=T.val ds+10000 ^ ds.length*q):a=T.val (ds ++ [q % 10000])+10000 ^ (ds ++ [q % 10000]).length*(q / 10000):=by
 rw [T.val_append,List.length_append,List.length_singleton,Nat.pow_succ,Nat.mul_assoc,Nat.add_assoc,←Nat.mul_add]
 have:T.val [q % 10000]+10000*(q / 10000)=q:=by simp [T.val];omega
 rw [this];exact h
theorem ofD_len {a q:Nat} {ds:List Nat} (h:a=T.val ds+10000 ^ ds.length*q) (hq:0<q) (ha:a≤9223372036854775808) (h5:ds.length≤5):ds.length≤4:=by
 rcases Nat.lt_or_ge ds.length 5 with h1|h1
 ·omega
 ·have e:ds.length=5:=by omega
  rw [e] at h
  have:10000 ^ 5*1≤10000 ^ 5*q:=Nat.mul_le_mul_left _ hq
  omega
theorem dig_snoc {ds:List Nat} (h:T.Dig ds) (q:Nat):T.Dig (ds ++ [q % 10000]):=fun d hd=>by
 rcases List.mem_append.1 hd with h1|h1
 ·exact h d h1
 ·obtain rfl:d=q % 10000:=by simpa using h1
  exact Nat.mod_lt _ (by omega)
theorem ofD_done {a:Nat} {ds:List Nat} (h:a=T.val ds+10000 ^ ds.length*0):T.val ds=a:=by omega
theorem tmod_neg (q:Nat):(-(q:Int)).tmod 10000 = -((q % 10000:Nat):Int):=by
 rw [Int.neg_tmod];congr 1
theorem tdiv_neg (q:Nat):(-(q:Int)).tdiv 10000 = -((q / 10000:Nat):Int):=by
 rw [Int.neg_tdiv];congr 1
theorem new_cell (w:World) (T:TypeId) (x:Value):∀ (j:Nat) (u:Value),[x][j]? = some u→(w.alloc (.cells #[x] T (0,0))).cell? (Addr.add ⟨w.heap.size,0,none⟩ j)=some u:=fun j u h=>by
 rcases j with _|j
 ·simp at h;subst h;exact (Blk.new w [x] T).cell 0 (by simp)
 ·simp at h
theorem one_cell (k:IntKind) (n:Int):∀ u∈[Value.int k n],u.oneCell'=true:=fun u h=>by
 obtain rfl:u=.int k n:=by simpa using h
 rfl
set_option maxRecDepth 100000 in
theorem wp_snoc {ops:Array Oper} {rest:List Oper} {o:Oper} {a:Act} {Q:Exit→Act→World→Prop} (hgd:o.guard=none) (s x:Operand)
 (ho:o.op=.call { callee:=.builtin .append,args:=#[s,x],argTypes:=#[23,23] }) {wr:World} {base:Nat} {v:Value} {ds:List Nat} {d:Nat} {z:Int} (hs:a.eval s=v)
 (hx:a.eval x=.slice (some ⟨wr.heap.size,0,none⟩) 1 1) (hown:OwnD wr base v ds) (hz:z=(d:Nat)) (hl:ds.length≤10000000000000) (hb:base≤wr.heap.size)
 (h:∀ v' w',Hid (OwnD w' base v' (ds ++ [d]))→Hid (∀ (B:Nat) (w0:World),Below B w0 wr→B≤base→Below B w0 w')→wpList Tryz.prog ops Q rest (a.put o.dst v') w') :
 wpList Tryz.prog ops Q (o :: rest) a (wr.alloc (.cells #[.int .i64 z] 3 (0,0))):=by
 subst hz
 obtain ⟨i0,hi,hz0,hz1,hz2⟩:=info_parts infoInt
 refine wpList_append_own _ hgd s x 23 ho base 3 i0 (.int .i64 0) 1 8 Tryz.underlying23 hi hz0 hz1 hz2 rfl (by decide) v ds.length _ hs (World.ownsRow.alloc hown _) ⟨wr.heap.size,0,none⟩ 1 1 [.int .i64 (d:Nat)] hx rfl (new_cell _ _ _) (one_cell _ _) (by unfold maxLen;omega) (by omega) (by simp;omega) ?_
 intro v' w' h1 hg _
 refine h v' w' (hid (by unfold OwnD;rw [List.length_append,List.map_append];exact h1)) (hid fun B w0 hB hBb=>?_)
 refine ((hB.alloc (by omega) _).grown hg (by simp;omega) fun k hk=>?_)
 have:=(World.ownsRow.lt hown k hk).1
 omega
set_option maxRecDepth 100000 in
set_option maxHeartbeats 1000000 in
theorem rOf_pos (a:Nat) (w:World) (ha:a≤9223372036854775807) :
 Calls Tryz.prog 45 #[.int .i64 a] w fun e w'=>∃ v,e=.returned v∧RBo w' w.heap.size v a∧Below w.heap.size w w':=by
 obtain ⟨i0,hi,hz0,hz1,hz2⟩:=info_parts infoInt
 have B0:=Blk.new w [.bool false,.slice none 0 0] 61
 have ha2:(a:Int)≤9223372036854775807:=by omega
 go_enter Tryz.func45,Tryz.ntmps45
 go_wp2
 go_loopw [0,3,5] (fun n v _ wr=>∃ (q:Nat) (ds:List Nat),n=.int .i64 q∧q≤a∧Hid (a=T.val ds+10000 ^ ds.length*q)∧ds.length≤5∧T.Dig ds∧OwnD wr (w.heap.size+1) v ds∧Below (w.heap.size+1) (w.alloc (.cells #[.bool false,.slice none 0 0] 61 (0,0))) wr) (fun n _ _ _=>(intOf n).toNat)
 case atStart=>exact ⟨a,[],rfl,Nat.le_refl _,hid (by simp [T.val]),by simp,fun d hd=>by simp at hd,OwnD.nil _ _,Below.refl _ _⟩
 case round =>
  obtain ⟨q,ds,rfl,hqa,hval,hl5,hdig,hown,hbe⟩:=hrel
  by_cases hq:q=0
  ·subst hq
   have hva:=ofD_done hval.out
   obtain ⟨A,c,rfl,hc,hcm,hR⟩:=hown.rsl
   have hwh:=rwhole_calls false A c ds wr (by omega) hdig hR
   rw [hva] at hwh
   have B1:=B0.below hbe (by simp)
   have c0:=B1.cell 0 (by simp);have c1:=B1.cell 1 (by simp)
   simp only [List.getElem_cons_zero,List.getElem_cons_succ] at c0 c1
   have bs:=hbe.size
   simp at bs
   have HBE:Hid (Below w.heap.size w wr):=hid (((Below.refl _ w).alloc (Nat.le_refl _) _).trans (hbe.mono (by omega)))
   have HB1:=hid B1
   clear hval hva hdig hown hR hbe B0 B1 hc hcm
   go_wp2_with fail
   refine hwh.mono ?_;rintro e w1 ⟨v,rfl,⟨sl,rfl,ho⟩,hb1⟩
   have B2:=HB1.out.ext hb1
   have c0:=B2.cell 0 (by simp);have c1:=B2.cell 1 (by simp)
   simp only [List.getElem_cons_zero,List.getElem_cons_succ] at c0 c1
   have f0:=B2.free 0;have f1:=B2.free 1
   have bl:=B2.lt
   have HX:=hid (HBE.out.trans (hb1.mono HBE.out.size))
   obtain ⟨A2,k2,rfl,-,-,-⟩:=ho.rsl
   have HO:=hid ho
   rw [show decide (sgnd false a<0)=false from by rw [sgnd_neg];rfl]
   generalize (T.digits (sgnd false a).natAbs).length=L2 at *
   clear hwh hb1 B2 ho
   go_wp2_with fail
   try simp only [Exit.inBlock,Exit.then]
   refine bodyPost_ret (v:=.agg #[.bool false,.slice A2 L2 k2]) (by simp [results,Tryz.results45,go_sem,bl,c0,c1]) rfl ⟨_,rfl,⟨_,by simp;rfl,?_⟩,(HX.out.setCell (Nat.le_refl _) _).setCell (Nat.le_refl _) _⟩
   have:=HO.out
   rw [sgnd_abs] at this
   exact ((this.set _ _ (by dsimp only;omega)).set _ _ (by dsimp only;omega)).mono (by omega)
  ·have hl4:=ofD_len hval.out (by omega) (by omega) hl5
   have hq0:((q:Int) != 0)=true:=by simp;omega
   have hstep:=hid (ofD_step hval.out)
   have hd2:=dig_snoc hdig q
   have e1:((q % 10000:Nat):Int)=(q:Int) % 10000:=by omega
   have e2:((q / 10000:Nat):Int)=(q:Int) / 10000:=by omega
   have E1:=hid e1;have E2:=hid e2;have HD2:=hid hd2;have HQ:=hid hq
   clear hval hdig e1 e2 hd2 hq
   have hbs:=hbe.size
   simp at hbs
   have HB:=hid hbe
   clear hbe
   go_wp2_with (at_builtin;refine wp_snoc rfl _ _ rfl rfl rfl hown E1.out.symm (by omega) (by omega) ?_)
   intro v' w1 ho hb
   have HB2:=hid (hb.out _ _ HB.out (Nat.le_refl _))
   clear hown hb HB hbs
   go_wp2
   go_roundw
   case rel=>exact ⟨q / 10000,_,by rw [E2.out],by omega,hstep,by simp;omega,HD2.out,ho.out,HB2.out⟩
   case measure=>have:=HQ.out;simp [intOf];omega
set_option maxRecDepth 100000 in
set_option maxHeartbeats 1000000 in
theorem rOf_neg (a:Nat) (w:World) (h0:0<a) (ha:a≤9223372036854775808) :
 Calls Tryz.prog 45 #[.int .i64 (-(a:Int))] w fun e w'=>∃ v,e=.returned v∧RBo w' w.heap.size v (-(a:Int))∧Below w.heap.size w w':=by
 obtain ⟨i0,hi,hz0,hz1,hz2⟩:=info_parts infoInt
 have B0:=Blk.new w [.bool false,.slice none 0 0] 61
 have ha2:(a:Int)≤9223372036854775808:=by omega
 have ha3:decide (-(a:Int)<0)=true:=decide_eq_true (by omega)
 go_enter Tryz.func45,Tryz.ntmps45
 go_wp2
 go_loopw [0,3,5] (fun n v _ wr=>∃ (q:Nat) (ds:List Nat),n=.int .i64 (-(q:Int))∧q≤a∧Hid (a=T.val ds+10000 ^ ds.length*q)∧ds.length≤5∧T.Dig ds∧OwnD wr (w.heap.size+1) v ds∧Below (w.heap.size+1) (w.alloc (.cells #[.bool false,.slice none 0 0] 61 (0,0))) wr) (fun n _ _ _=>(-(intOf n)).toNat)
 case atStart=>exact ⟨a,[],rfl,Nat.le_refl _,hid (by simp [T.val]),by simp,fun d hd=>by simp at hd,OwnD.nil _ _,Below.refl _ _⟩
 case round =>
  obtain ⟨q,ds,rfl,hqa,hval,hl5,hdig,hown,hbe⟩:=hrel
  by_cases hq:q=0
  ·subst hq
   have hva:=ofD_done hval.out
   obtain ⟨A,c,rfl,hc,hcm,hR⟩:=hown.rsl
   have hwh:=rwhole_calls true A c ds wr (by omega) hdig hR
   rw [hva] at hwh
   have B1:=B0.below hbe (by simp)
   have c0:=B1.cell 0 (by simp);have c1:=B1.cell 1 (by simp)
   simp only [List.getElem_cons_zero,List.getElem_cons_succ] at c0 c1
   have bs:=hbe.size
   simp at bs
   have HBE:Hid (Below w.heap.size w wr):=hid (((Below.refl _ w).alloc (Nat.le_refl _) _).trans (hbe.mono (by omega)))
   have HB1:=hid B1
   clear hval hva hdig hown hR hbe B0 B1 hc hcm
   go_wp2_with fail
   refine hwh.mono ?_;rintro e w1 ⟨v,rfl,⟨sl,rfl,ho⟩,hb1⟩
   have B2:=HB1.out.ext hb1
   have c0:=B2.cell 0 (by simp);have c1:=B2.cell 1 (by simp)
   simp only [List.getElem_cons_zero,List.getElem_cons_succ] at c0 c1
   have f0:=B2.free 0;have f1:=B2.free 1
   have bl:=B2.lt
   have HX:=hid (HBE.out.trans (hb1.mono HBE.out.size))
   obtain ⟨A2,k2,rfl,-,-,-⟩:=ho.rsl
   have HO:=hid ho
   rw [show decide (sgnd true a<0)=true from by rw [sgnd_neg];simp;omega]
   generalize (T.digits (sgnd true a).natAbs).length=L2 at *
   clear hwh hb1 B2 ho
   go_wp2_with fail
   try simp only [Exit.inBlock,Exit.then]
   refine bodyPost_ret (v:=.agg #[.bool true,.slice A2 L2 k2]) (by simp [results,Tryz.results45,go_sem,bl,c0,c1]) rfl ⟨_,rfl,⟨_,by rw [decide_eq_true (by omega : -(a:Int)<0)],?_⟩,(HX.out.setCell (Nat.le_refl _) _).setCell (Nat.le_refl _) _⟩
   rw [Int.natAbs_neg,Int.natAbs_natCast]
   have:=HO.out
   rw [sgnd_abs] at this
   exact ((this.set _ _ (by dsimp only;omega)).set _ _ (by dsimp only;omega)).mono (by omega)
  ·have hl4:=ofD_len hval.out (by omega) (by omega) hl5
   have hq0:(-(q:Int) != 0)=true:=by simp;omega
   have hstep:=hid (ofD_step hval.out)
   have hd2:=dig_snoc hdig q
   have e2:(-(q:Int)).tdiv 10000 = -((q / 10000:Nat):Int):=tdiv_neg q
   have e1:(-(q:Int)).tmod 10000 = -((q % 10000:Nat):Int):=tmod_neg q
   have h1:q % 10000<10000:=Nat.mod_lt _ (by omega)
   have h2:q / 10000<q:=Nat.div_lt_self (by omega) (by omega)
   have HD2:=hid hd2;have HQ:=hid hq
   have hbs:=hbe.size
   simp at hbs
   have HB:=hid hbe
   generalize q % 10000=r at *
   generalize q / 10000=q2 at *
   have hbd:(0:Int)≤q∧(q:Int)≤9223372036854775808∧(0:Int)≤q2∧(q2:Int)≤9223372036854775808:=by omega
   clear hval hdig hd2 hq hbe
   by_cases hr:r=0
   ·subst hr
    rw [show -((0:Nat):Int)=0 from rfl] at e1
    go_wp2_with (at_builtin;refine wp_snoc (d:=0) rfl _ _ rfl rfl rfl hown rfl (by omega) (by omega) ?_)
    intro v' w1 ho hb
    have HB2:=hid (hb.out _ _ HB.out (Nat.le_refl _))
    clear hown hb HB hbs
    go_wp2
    go_roundw
    case rel=>exact ⟨q2,_,rfl,by omega,hstep,by simp;omega,HD2.out,ho.out,HB2.out⟩
    case measure=>have:=HQ.out;simp [intOf];omega
   ·have hr0:decide (-(r:Int)<0)=true:=decide_eq_true (by omega)
    go_wp2_with (at_builtin;refine wp_snoc (d:=r) rfl _ _ rfl rfl rfl hown (by simp) (by omega) (by omega) ?_)
    intro v' w1 ho hb
    have HB2:=hid (hb.out _ _ HB.out (Nat.le_refl _))
    clear hown hb HB hbs
    go_wp2
    go_roundw
    case rel=>exact ⟨q2,_,rfl,by omega,hstep,by simp;omega,HD2.out,ho.out,HB2.out⟩
    case measure=>have:=HQ.out;simp [intOf];omega
theorem rOf_calls (z:Int) (w:World) (h : -9223372036854775808≤z∧z≤9223372036854775807) :
 Calls Tryz.prog 45 #[.int .i64 z] w fun e w'=>∃ v,e=.returned v∧RBo w' w.heap.size v z∧Below w.heap.size w w':=by
 rcases Int.lt_or_le z 0 with hz|hz
 ·obtain ⟨a,rfl⟩:∃ a:Nat,z = -(a:Int):=⟨z.natAbs,by omega⟩
  exact rOf_neg a w (by omega) (by omega)
 ·obtain ⟨a,rfl⟩:∃ a:Nat,z=a:=⟨z.toNat,by omega⟩
  exact rOf_pos a w (by omega)
end
end Go.Proofs.YtkljafmdbajfeaaGreatDoor
