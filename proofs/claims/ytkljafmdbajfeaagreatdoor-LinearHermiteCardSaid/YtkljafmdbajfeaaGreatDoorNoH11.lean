/- Package big: plus of any two, Mul64, times of small numbers. -/
import Derived.Shelf.Bits.Mul64
import Derived.Test.YtkljafmdbajfeaaGreatDoorNoH05
namespace Go.Proofs.YtkljafmdbajfeaaGreatDoor
set_option linter.unusedVariables false
set_option linter.unusedSimpArgs false
open Go.Lib (hid)
section
open Go.RowKit
set_option maxRecDepth 100000 in
set_option maxHeartbeats 2000000 in
theorem plus_swap (A B:Option Addr) (ca cb:Nat) (a b:List Nat) (w:World) (hl:b.length<a.length) (ha:Dig a) (hb:Dig b) (hm:a.length≤100000000) (hA:Wds w A a) (hB:Wds w B b) :
 Calls Tryz.prog 207 #[.slice B b.length cb,.slice A a.length ca] w fun e w'=>∃ v,e=.returned v∧WSl w' v (val a+val b)∧Below w.heap.size w w':=by
 have hmk:=fun w=>run_makeU32 w (a.length+1) (by omega)
 have ec:((a.length+1:Nat):Int)=(a.length:Int)+1:=by push_cast;rfl
 rw [ec] at hmk
 clear ec
 have hge:decide ((b.length:Int)<a.length)=true:=decide_eq_true (by omega)
 go_enter Tryz.func207,Tryz.ntmps207
 go_wp2
 go_loopw [6,7,21] (fun c _ i wr=>∃ (k cn:Nat) (os:List Nat),k≤a.length∧i=.int .i64 k∧c=.int .u64 cn∧UBlk wr w.heap.size os∧PlusAt a b os k cn∧Below w.heap.size w wr) (fun _ _ i _=>a.length-(intOf i).toNat)
 case atStart=>exact ⟨0,0,List.replicate (a.length+1) 0,Nat.zero_le _,rfl,rfl,UBlk.made _ _ _ rfl,⟨by simp,Dig.zeros _,by omega,by simp [val]⟩,(Below.refl _ _).alloc (Nat.le_refl _) _⟩
 case round =>
  obtain ⟨k,cn,os,hk,rfl,rfl,hos,hp,hbe⟩:=hrel
  obtain ⟨p1,p2,p3,p4⟩:=id hp
  have hP:=hid hp;have P1:=hid p1
  clear hp p1 p4
  by_cases hlt:k<a.length
  ·obtain ⟨bA,oA,rfl,gA⟩:=(hA.ext hbe) k hlt
   have xa:=ha.nth k
   have c1:=hos.cell k (by have:=P1.out;omega)
   have f1:=Blk.free hos k
   by_cases hlb:k<b.length
   ·obtain ⟨bB,oB,rfl,gB⟩:=(hB.ext hbe) k hlb
    have xb:=hb.nth k
    have hP2:=PlusAt.step hP.out ha hb hlt
    have e1:(((cn+nthd a k+nthd b k) % 4294967296:Nat):Int)=((cn:Int)+nthd a k+nthd b k) % 4294967296:=castm3 _ _ _
    have e2:(((cn+nthd a k+nthd b k) / 4294967296:Nat):Int)=((cn:Int)+nthd a k+nthd b k) / 4294967296:=castd3 _ _ _
    have HP2:=hid hP2;have E1:=hid e1;have E2:=hid e2
    clear hP2 e1 e2
    go_wp2
    go_roundw
    case rel=>exact ⟨k+1,_,_,by omega,by go_num,by rw [←E2.out],by rw [←E1.out];exact hos.set k _,HP2.out,hbe.setCell (by dsimp only;omega) _⟩
    case measure=>simp [intOf];omega
   ·have hlb':decide ((k:Int)<b.length)=false:=decide_eq_false (by omega)
    have hP2:=PlusAt.step hP.out ha hb hlt
    rw [nthd_out (l:=b) (by omega),Nat.add_zero] at hP2
    have e1:(((cn+nthd a k) % 4294967296:Nat):Int)=((cn:Int)+nthd a k) % 4294967296:=by omega
    have e2:(((cn+nthd a k) / 4294967296:Nat):Int)=((cn:Int)+nthd a k) / 4294967296:=by omega
    have HP2:=hid hP2;have E1:=hid e1;have E2:=hid e2
    clear hP2 e1 e2
    go_wp2
    go_roundw
    case rel=>exact ⟨k+1,_,_,by omega,by go_num,by rw [←E2.out],by rw [←E1.out];exact hos.set k _,HP2.out,hbe.setCell (by dsimp only;omega) _⟩
    case measure=>simp [intOf];omega
  ·obtain rfl:k=a.length:=by omega
   have c1:=hos.cell a.length (by have:=P1.out;omega)
   have f1:=Blk.free hos a.length
   have hd:=PlusAt.done hP.out (by omega)
   have HD:=hid hd
   have hcm:(cn:Int) % 4294967296=cn:=by omega
   have hsz:=hbe.size
   clear hd
   have htr:∀ w2,UBlk w2 w.heap.size (os.set a.length cn)→_:=fun w2 h=>trim_calls (some ⟨w.heap.size,0,none⟩) (a.length+1) (os.set a.length cn) w2 (by simp;have:=P1.out;omega) (by unfold maxLen;omega) h.wds
   rw [List.length_set,P1.out] at htr
   have HT:=hid htr
   clear htr
   go_wp2_with fail
   refine (HT.out _ (hos.set a.length cn)).mono ?_;rintro e w3 ⟨n,rfl,hn,ht,rfl⟩
   have hfin:=((hos.set a.length cn).wds).take n
   rw [ht,HD.out] at hfin
   have hnl:n=(digits (val a+val b)).length:=by
    rw [←HD.out,←ht,List.length_take];simp;have:=P1.out;omega
   have HN:=hid hnl
   clear hnl
   go_wp2
   go_ret
   exact ⟨_,rfl,⟨_,a.length+1,by rw [←HN.out];rfl,by rw [←HN.out];have:=P1.out;omega,by omega,hfin⟩,hbe.setCell (by dsimp only;omega) _⟩
theorem plus_calls (v u:Value) (n m:Nat) (w:World) (hn:(digits n).length≤100000000) (hm:(digits m).length≤100000000) (hv:WSl w v n) (hu:WSl w u m) :
 Calls Tryz.prog 207 #[v,u] w fun e w'=>∃ v,e=.returned v∧WSl w' v (n+m)∧Below w.heap.size w w':=by
 obtain ⟨A,c,rfl,h1,h2,h3⟩:=hv
 obtain ⟨B,d,rfl,k1,k2,k3⟩:=hu
 by_cases h:(digits m).length≤(digits n).length
 ·have:=plus_loop A B c d (digits n) (digits m) w h (digits_dig n) (digits_dig m) hn h3 k3
  rw [val_digits,val_digits] at this;exact this
 ·have:=plus_swap B A d c (digits m) (digits n) w (by omega) (digits_dig m) (digits_dig n) hm k3 h3
  rw [val_digits,val_digits,Nat.add_comm m n] at this;exact this
theorem minus_z (v u:Value) (n m:Nat) (w:World) (hn:(digits n).length≤100000000) (hle:m≤n) (hv:WSl w v n) (hu:WSl w u m) :
 Calls Tryz.prog 209 #[v,u] w fun e w'=>∃ v,e=.returned v∧WSl w' v (n-m)∧Below w.heap.size w w':=by
 obtain ⟨A,c,rfl,h1,h2,h3⟩:=hv
 obtain ⟨B,d,rfl,k1,k2,k3⟩:=hu
 have hl:(digits m).length≤(digits n).length:=by
  rcases Nat.lt_or_ge (digits n).length (digits m).length with h|h
  ·have:=digits_len_lt h;omega
  ·exact h
 have:=minus_calls A B c d (digits n) (digits m) w hl (by rw [val_digits,val_digits];exact hle) (digits_dig n) (digits_dig m) hn h3 k3
 rw [val_digits,val_digits] at this;exact this
set_option maxHeartbeats 1000000 in
theorem mul64_calls (x y:Nat) (hx:x<18446744073709551616) (hy:y<18446744073709551616) (w:World) :
 Calls Tryz.prog 229 #[.int .u64 x,.int .u64 y] w fun e w'=>e=.returned (.tuple #[.int .u64 ((x*y / 18446744073709551616:Nat):Int),.int .u64 ((x*y % 18446744073709551616:Nat):Int)])∧w'=w:=by
 obtain ⟨bd,bt,bw,hhi⟩:=Lib.mul64_hi x y hx hy
 have ba:=Lib.half_mul_le (a:=x / 4294967296) (b:=y / 4294967296) (by omega) (by omega)
 have bb:=Lib.half_mul_le (a:=x / 4294967296) (b:=y % 4294967296) (by omega) (by omega)
 have bc:=Lib.half_mul_le (a:=x % 4294967296) (b:=y / 4294967296) (by omega) (by omega)
 have ba':x / 4294967296*(y / 4294967296)<18446744073709551616:=by omega
 have bb':x / 4294967296*(y % 4294967296)<18446744073709551616:=by omega
 have bc':x % 4294967296*(y / 4294967296)<18446744073709551616:=by omega
 have bh1:x / 4294967296*(y / 4294967296)+(x / 4294967296*(y % 4294967296)+x % 4294967296*(y % 4294967296) / 4294967296) / 4294967296<18446744073709551616:=by omega
 have bh:x / 4294967296*(y / 4294967296)+(x / 4294967296*(y % 4294967296)+x % 4294967296*(y % 4294967296) / 4294967296) / 4294967296+((x / 4294967296*(y % 4294967296)+x % 4294967296*(y % 4294967296) / 4294967296) % 4294967296+x % 4294967296*(y / 4294967296)) / 4294967296<18446744073709551616:=by omega
 go_enter Tryz.func229,Tryz.ntmps229
 go_wp2
 simp only [Mul64.maskN x hx,Mul64.maskN y hy,Mul64.divN,Mul64.mulN,Mul64.addN,Mul64.wrapN _ bd,Mul64.wrapN _ bb',Mul64.wrapN _ bt,Mul64.maskN _ bt,Mul64.wrapN _ bc',Mul64.wrapN _ bw,Mul64.wrapN _ ba',Mul64.wrapN _ bh1,Mul64.wrapN _ bh,Mul64.wrapM (x*y)]
 rw [hhi]
 go_ret2
 exact ⟨rfl,rfl⟩
theorem digits_four (z:Nat) (h:z / 18446744073709551616<18446744073709551616):trimL [z % 18446744073709551616 % 4294967296,z % 18446744073709551616 / 4294967296,z / 18446744073709551616 % 4294967296,z / 18446744073709551616 / 4294967296]=digits z:=by
 rw [trimL_digits (by intro d hd;simp at hd;omega)]
 congr 1;simp [val];omega
set_option maxHeartbeats 1000000 in
theorem times_small (v u:Value) (n m:Nat) (w:World) (hn:n<18446744073709551616) (hm:m<18446744073709551616) (hv:WSl w v n) (hu:WSl w u m) :
 Calls Tryz.prog 199 #[v,u] w fun e w'=>∃ v,e=.returned v∧WSl w' v (n*m)∧Below w.heap.size w w':=by
 have hlt:n*m / 18446744073709551616<18446744073709551616:=by
  have:n*m≤18446744073709551615*18446744073709551615:=Nat.mul_le_mul (by omega) (by omega)
  omega
 have hd:=digits_four (n*m) hlt
 have hx:=mul64_calls n m hn hm
 have hxs:=fun w h=>small_yes n v w hn h
 have hys:=fun w h=>small_yes m u w hm h
 generalize n*m=z at *
 have hb1:z % 18446744073709551616<18446744073709551616:=Nat.mod_lt _ (by omega)
 generalize z % 18446744073709551616=lo at *
 generalize z / 18446744073709551616=hi at *
 have hw2:∀ w:World,Wds (w.alloc (.cells #[.int .u32 ((lo:Int) % 4294967296),.int .u32 ((lo:Int) / 4294967296),.int .u32 ((hi:Int) % 4294967296),.int .u32 ((hi:Int) / 4294967296)] 240 (0,0))) (some ⟨w.heap.size,0,none⟩) [lo % 4294967296,lo / 4294967296,hi % 4294967296,hi / 4294967296]:=fun w=>wds_new w [lo % 4294967296,lo / 4294967296,hi % 4294967296,hi / 4294967296] _ rfl
 have HD:=hid hd;have HX:=hid hx;have HXS:=hid hxs;have HYS:=hid hys
 clear hd hx hxs hys
 have hv0:=hv
 have hu0:=hu
 obtain ⟨A,c,rfl,-,-,-⟩:=hv0
 obtain ⟨B,d,rfl,-,-,-⟩:=hu0
 go_enter Tryz.func199,Tryz.ntmps199
 go_wp2_with fail
 refine (HXS.out _ hv).mono ?_;rintro e w1 ⟨rfl,k1,rfl⟩
 go_wp2_with fail
 refine (HYS.out _ (hu.ext (drewN_below _ _))).mono ?_;rintro e w1 ⟨rfl,k2,rfl⟩
 go_wp2_with fail
 refine (HX.out _).mono ?_;rintro e w1 ⟨rfl,rfl⟩
 go_wp2_with fail
 have hws:=hw2 (w.drewN (k1+k2))
 rw [show (w.drewN (k1+k2)).heap.size=w.heap.size from rfl] at hws
 have hbe:=(drewN_below w (k1+k2)).alloc (show w.heap.size≤w.heap.size from Nat.le_refl _) (.cells #[.int .u32 ((lo:Int) % 4294967296),.int .u32 ((lo:Int) / 4294967296),.int .u32 ((hi:Int) % 4294967296),.int .u32 ((hi:Int) / 4294967296)] 240 (0,0))
 have HBE:=hid hbe
 clear hbe
 refine (trim_calls _ 4 [lo % 4294967296,lo / 4294967296,hi % 4294967296,hi / 4294967296] _ (by simp) (by unfold maxLen;omega) hws).mono ?_;rintro e w1 ⟨k,rfl,hk,ht,rfl⟩
 have hw3:=hws.take k
 rw [ht,HD.out] at hw3
 have hl:k=(digits z).length:=by rw [←HD.out,←ht,List.length_take];omega
 have HL:=hid hl
 have hkc:k≤4:=by simpa using hk
 clear ht hk hl hws hw2
 go_wp2
 go_ret
 exact ⟨_,rfl,⟨_,4,by rw [←HL.out];rfl,by rw [←HL.out];exact hkc,by omega,hw3⟩,HBE.out⟩
end
section
open Go.RowKit
theorem wval_set:∀ (l:List Nat) (i d:Nat),i<l.length→val (l.set i d)+4294967296 ^ i*nthd l i=val l+4294967296 ^ i*d
 | [],_,_,h=>by simp at h
 | x :: l,0,d,_=>by simp [val,nthd];omega
 | x :: l,i+1,d,h=>by
   have ih:=wval_set l i d (by simpa using h)
   have e:nthd (x :: l) (i+1)=nthd l i:=rfl
   simp only [List.set_cons_succ,val,e,Nat.pow_succ]
   have e1:4294967296 ^ i*4294967296*nthd l i=4294967296*(4294967296 ^ i*nthd l i):=by rw [Nat.mul_comm (4294967296 ^ i),Nat.mul_assoc]
   have e2:4294967296 ^ i*4294967296*d=4294967296*(4294967296 ^ i*d):=by rw [Nat.mul_comm (4294967296 ^ i),Nat.mul_assoc]
   omega
theorem wdig_set {l:List Nat} (h:Dig l) (k:Nat) {d:Nat} (hd:d<4294967296):Dig (l.set k d):=fun x hx=>by
 rcases List.mem_or_eq_of_mem_set hx with h1|h1
 ·exact h x h1
 ·rw [h1];exact hd
theorem wnthd_set (l:List Nat) (i j d:Nat) (h:i≠j):nthd (l.set i d) j=nthd l j:=by
 unfold nthd;rw [List.getD_eq_getElem?_getD,List.getD_eq_getElem?_getD,List.getElem?_set_ne h]
structure WRow (a b os:List Nat) (i:Nat):Prop where
 len:os.length=a.length+b.length
 dig:Dig os
 value:val os=val (a.take i)*val b
 zero:∀ j,i+b.length≤j→nthd os j=0
structure WIn (a b os:List Nat) (i k c:Nat):Prop where
 len:os.length=a.length+b.length
 dig:Dig os
 car:c<4294967296
 value:val os+4294967296 ^ (i+k)*c=val (a.take i)*val b+4294967296 ^ i*nthd a i*val (b.take k)
 zero:∀ j,i+b.length≤j→nthd os j=0
theorem WRow.start (a b:List Nat):WRow a b (List.replicate (a.length+b.length) 0) 0:=by
 have hz:∀ n,val (List.replicate n 0)=0:=fun n=>by
  induction n with
  | zero=>rfl
  | succ n ih=>rw [List.replicate_succ];simp only [val];omega
 refine ⟨by simp,fun d hd=>by rw [(List.mem_replicate.1 hd).2];omega,by rw [hz];simp [val],fun j _=>?_⟩
 unfold nthd;rw [List.getD_eq_getElem?_getD,List.getElem?_replicate];split<;>rfl
theorem WRow.enter {a b os:List Nat} {i:Nat} (h:WRow a b os i):WIn a b os i 0 0:=⟨h.len,h.dig,by omega,by rw [h.value];simp [val],h.zero⟩
theorem wmul_digit {x y:Nat} (hx:x<4294967296) (hy:y<4294967296):x*y≤18446744065119617025:=by
 have:=Nat.mul_le_mul (show x≤4294967295 by omega) (show y≤4294967295 by omega)
 omega
theorem WIn.step {a b os:List Nat} {i k c:Nat} (h:WIn a b os i k c) (ha:Dig a) (hb:Dig b) (hi:i<a.length) (hk:k<b.length) :
 WIn a b (os.set (i+k) ((nthd os (i+k)+nthd a i*nthd b k+c) % 4294967296)) i (k+1) ((nthd os (i+k)+nthd a i*nthd b k+c) / 4294967296):=by
 have x:nthd a i<4294967296:=ha.nth i
 have y:nthd b k<4294967296:=hb.nth k
 have o:nthd os (i+k)<4294967296:=h.dig.nth (i+k)
 have hc:=h.car
 have hp:=wmul_digit x y
 refine ⟨by rw [List.length_set];exact h.len,wdig_set h.dig _ (Nat.mod_lt _ (by omega)),by omega,?_,fun j hj=>?_⟩
 ·have hv:=h.value
  have hs:=wval_set os (i+k) ((nthd os (i+k)+nthd a i*nthd b k+c) % 4294967296) (by rw [h.len];omega)
  rw [val_take_succ b k]
  have e0:4294967296 ^ (i+(k+1))=4294967296 ^ (i+k)*4294967296:=by rw [←Nat.add_assoc,Nat.pow_succ]
  rw [e0]
  have e1:4294967296 ^ i*nthd a i*(val (b.take k)+4294967296 ^ k*nthd b k)=4294967296 ^ i*nthd a i*val (b.take k)+4294967296 ^ (i+k)*(nthd a i*nthd b k):=by
   rw [Nat.mul_add];congr 1
   rw [Nat.pow_add,Nat.mul_assoc,Nat.mul_assoc];congr 1
   rw [←Nat.mul_assoc,Nat.mul_comm (nthd a i),Nat.mul_assoc]
  rw [e1]
  generalize nthd a i*nthd b k=p at *
  generalize nthd os (i+k)=q at *
  generalize 4294967296 ^ (i+k)=P at *
  have e2:(q+p+c) % 4294967296+4294967296*((q+p+c) / 4294967296)=q+p+c:=by omega
  have e3:P*((q+p+c) % 4294967296)+P*4294967296*((q+p+c) / 4294967296)=P*q+P*p+P*c:=by
   rw [Nat.mul_assoc,←Nat.mul_add,e2,Nat.mul_add,Nat.mul_add]
  omega
 ·rw [wnthd_set _ _ _ _ (by omega)];exact h.zero j hj
theorem WIn.done {a b os:List Nat} {i c:Nat} (h:WIn a b os i b.length c) (hi:i<a.length):WRow a b (os.set (i+b.length) c) (i+1):=by
 refine ⟨by rw [List.length_set];exact h.len,wdig_set h.dig _ h.car,?_,fun j hj=>?_⟩
 ·have hv:=h.value
  have hs:=wval_set os (i+b.length) c (by rw [h.len];omega)
  rw [h.zero _ (Nat.le_refl _),Nat.mul_zero,Nat.add_zero] at hs
  rw [hs,hv,val_take_succ a i,List.take_length,Nat.add_mul]
 ·rw [wnthd_set _ _ _ _ (by omega)];exact h.zero j (by omega)
theorem WRow.done {a b os:List Nat} (h:WRow a b os a.length):trimL os=digits (val a*val b):=by
 rw [trimL_digits h.dig,h.value,List.take_length]
end
section
open Go.RowKit
structure Trial (b P d1 d2 dl u0 u1 u2 ul D U:Nat):Prop where
 b2:2≤b
 hP:0<P
 d:D=(d1*b+d2)*P+dl
 u:U=((u0*b+u1)*b+u2)*P+ul
 pos:0<d1
 h2:d2<b
 hl:dl<P
 w1:u1<b
 w2:u2<b
 wl:ul<P
 lt:U<D*b
variable {b P d1 d2 dl u0 u1 u2 ul D U q r:Nat}
theorem Trial.dpos (h:Trial b P d1 d2 dl u0 u1 u2 ul D U):b*P≤D:=by
 have h1:1*b≤d1*b:=Nat.mul_le_mul_right b h.pos
 have h2:b*P≤(d1*b+d2)*P:=Nat.mul_le_mul_right P (by omega)
 rw [h.d];omega
theorem Trial.top (h:Trial b P d1 d2 dl u0 u1 u2 ul D U):u0≤d1:=by
 refine Classical.byContradiction fun hn=>?_
 have h0:d1+1≤u0:=by omega
 have e1:D<(d1*b+d2+1)*P:=by rw [h.d,Nat.add_mul (d1*b+d2) 1 P];have:=h.hl;omega
 have e2:d1*b+d2+1≤(d1+1)*b:=by rw [Nat.add_mul];have:=h.h2;omega
 have e3:D<(d1+1)*b*P:=Nat.lt_of_lt_of_le e1 (Nat.mul_le_mul_right P e2)
 have e4:D*b<(d1+1)*b*P*b:=Nat.mul_lt_mul_of_pos_right e3 (by have:=h.b2;omega)
 have e5:(d1+1)*b*P*b≤u0*b*P*b:=Nat.mul_le_mul_right b (Nat.mul_le_mul_right P (Nat.mul_le_mul_right b h0))
 have e6:u0*b*P*b=u0*b*b*P:=by rw [Nat.mul_assoc (u0*b),Nat.mul_comm P b,←Nat.mul_assoc]
 have e7:u0*b*b*P≤((u0*b+u1)*b+u2)*P:=Nat.mul_le_mul_right P (by rw [Nat.add_mul];omega)
 have:=h.lt;have:=h.u;omega
theorem Trial.first (h:Trial b P d1 d2 dl u0 u1 u2 ul D U):U / D≤(u0*b+u1) / d1:=by
 rw [Nat.le_div_iff_mul_le h.pos]
 have h1:U / D*D≤U:=Nat.div_mul_le_self U D
 have h2:U<(u0*b+u1+1)*(b*P):=by
  have e:((u0*b+u1)*b+u2+1)*P≤((u0*b+u1+1)*b)*P:=Nat.mul_le_mul_right P (by rw [Nat.add_mul (u0*b+u1) 1 b];have:=h.w2;omega)
  rw [Nat.add_mul _ 1 P] at e
  have:=h.u;have:=h.wl
  rw [←Nat.mul_assoc];omega
 have h3:U / D*d1*(b*P)≤U / D*D:=by
  rw [Nat.mul_assoc]
  refine Nat.mul_le_mul_left _ ?_
  rw [h.d,←Nat.mul_assoc]
  have:d1*b*P≤(d1*b+d2)*P:=Nat.mul_le_mul_right P (by omega)
  omega
 have h4:U / D*d1*(b*P)<(u0*b+u1+1)*(b*P):=by omega
 have:=Nat.lt_of_mul_lt_mul_right h4
 omega
structure Guess (b d1 u0 u1 D U q r:Nat):Prop where
 eq:q*d1+r=u0*b+u1
 ge:U / D≤q
theorem Trial.start (h:Trial b P d1 d2 dl u0 u1 u2 ul D U):Guess b d1 u0 u1 D U ((u0*b+u1) / d1) ((u0*b+u1) % d1) :=
 ⟨by rw [Nat.mul_comm];exact Nat.div_add_mod _ _,h.first⟩
theorem Trial.quot (h:Trial b P d1 d2 dl u0 u1 u2 ul D U):U / D<b:=by
 rw [Nat.div_lt_iff_lt_mul (by have:=h.dpos;have:=Nat.mul_pos (show 0<b by have:=h.b2;omega) h.hP;omega),Nat.mul_comm]
 exact h.lt
theorem Trial.step (h:Trial b P d1 d2 dl u0 u1 u2 ul D U) (g:Guess b d1 u0 u1 D U q r) (hc:b≤q∨r*b+u2<q*d2):0<q∧Guess b d1 u0 u1 D U (q-1) (r+d1):=by
 have hq:0<q:=by
  rcases hc with h1|h1
  ·have:=h.b2;omega
  ·rcases Nat.eq_zero_or_pos q with e|e
   ·subst e;simp at h1
   ·exact e
 obtain ⟨k,rfl⟩:∃ k,q=k+1:=⟨q-1,by omega⟩
 refine ⟨hq,by have:=g.eq;rw [Nat.add_mul] at this;rw [Nat.add_sub_cancel];omega,?_⟩
 rw [Nat.add_sub_cancel]
 rcases hc with h1|h1
 ·have:=h.quot;omega
 ·-- the guess times the divisor is more
  have hDp:0<D:=by have:=h.dpos;have:=Nat.mul_pos (show 0<b by have:=h.b2;omega) h.hP;omega
  have e1:U<(k+1)*D:=by
   have e2:(k+1)*(d1*b+d2)=(k+1)*d1*b+(k+1)*d2:=by rw [Nat.mul_add,Nat.mul_assoc]
   have e3:((k+1)*d1+r)*b=(u0*b+u1)*b:=by rw [g.eq]
   rw [Nat.add_mul] at e3
   have e4:(u0*b+u1)*b+u2+1≤(k+1)*(d1*b+d2):=by omega
   have e5:=Nat.mul_le_mul_right P e4
   rw [Nat.add_mul _ 1 P,Nat.mul_assoc (k+1)] at e5
   have e6:(k+1)*D=(k+1)*((d1*b+d2)*P)+(k+1)*dl:=by rw [h.d,Nat.mul_add]
   have:=h.u;have:=h.wl
   omega
  have:=(Nat.div_lt_iff_lt_mul hDp).2 e1
  omega
theorem Trial.fit (h:Trial b P d1 d2 dl u0 u1 u2 ul D U) (g:Guess b d1 u0 u1 D U q r) (hc:¬ (r<b∧(b≤q∨r*b+u2<q*d2))):q<b∧q≤U / D+1:=by
 have htop:=h.top
 have hq:q<b:=by
  refine Classical.byContradiction fun hn=>?_
  have hbq:b≤q:=by omega
  have hr:b≤r:=by
   refine Classical.byContradiction fun hn2=>hc ⟨by omega,.inl hbq⟩
  have e1:b*d1≤q*d1:=Nat.mul_le_mul_right d1 hbq
  have e2:u0*b≤d1*b:=Nat.mul_le_mul_right b htop
  have:=g.eq;have:=h.w1
  rw [Nat.mul_comm b d1] at e1
  omega
 refine ⟨hq,?_⟩
 have hsmall:q*d2≤r*b+u2:=by
  by_cases hr:r<b
  ·refine Classical.byContradiction fun hn=>hc ⟨hr,.inr (by omega)⟩
  ·have e1:b*b≤r*b:=Nat.mul_le_mul_right b (by omega)
   have e2:q*d2≤b*b:=Nat.mul_le_mul (by omega) (by have:=h.h2;omega)
   omega
 have hDp:b*P≤D:=h.dpos
 have hbP:0<b*P:=Nat.mul_pos (by have:=h.b2;omega) h.hP
 have e1:q*(d1*b+d2)≤(u0*b+u1)*b+u2:=by
  have e3:(q*d1+r)*b=(u0*b+u1)*b:=by rw [g.eq]
  rw [Nat.add_mul] at e3
  rw [Nat.mul_add,←Nat.mul_assoc];omega
 have e2:=Nat.mul_le_mul_right P e1
 have e3:q*dl<b*P:=by
  have h1:q*dl≤q*P:=Nat.mul_le_mul_left q (by have:=h.hl;omega)
  have h2:q*P<b*P:=Nat.mul_lt_mul_of_pos_right hq h.hP
  omega
 have e4:q*D<U+D:=by
  rw [h.d,Nat.mul_add,←Nat.mul_assoc]
  have:=h.u;have:=h.d
  omega
 rcases Nat.eq_zero_or_pos q with e|e
 ·rw [e];exact Nat.zero_le _
 ·obtain ⟨k,rfl⟩:∃ k,q=k+1:=⟨q-1,by omega⟩
  rw [Nat.add_mul] at e4
  have:k*D≤U:=by omega
  have:=(Nat.le_div_iff_mul_le (show 0<D by omega)).2 this
  omega
end
section
open Go.RowKit
structure TakeAt (u d:List Nat) (q:Nat) (os:List Nat) (i c s:Nat):Prop where
 len:os.length=u.length
 dig:Dig os
 rest:os.drop i=u.drop i
 car:c<4294967296
 bor:s≤1
 value:q*val (d.take i)+val (os.take i)=val (u.take i)+4294967296 ^ i*(c+s)
theorem TakeAt.start (u d:List Nat) (q:Nat) (hu:Dig u):TakeAt u d q u 0 0 0:=⟨rfl,hu,rfl,by omega,by omega,by simp [val]⟩
def tcar (c q y:Nat):Nat:=c+q*y
theorem tcar_lt {c q y:Nat} (hc:c<4294967296) (hq:q<4294967296) (hy:y<4294967296):tcar c q y<18446744073709551616∧tcar c q y / 4294967296<4294967296:=by
 have:=wmul_digit hq hy
 unfold tcar;omega
theorem take_digit (x k s:Nat) (hx:x<4294967296) (hk:k<4294967296) (hs:s≤1):∃ o t,o<4294967296∧t≤1∧k+s+o=x+4294967296*t∧o=mdig x k s∧t=mbor x k s:=by
 refine ⟨mdig x k s,mbor x k s,?_,?_,?_,rfl,rfl⟩<;>simp only [mdig,mbor]<;>split<;>omega
theorem TakeAt.step {u d os:List Nat} {q i c s:Nat} (h:TakeAt u d q os i c s) (hd:Dig d) (hi:i<u.length) (hq:q<4294967296) :
 TakeAt u d q (os.set i (mdig (nthd u i) (tcar c q (nthd d i) % 4294967296) s)) (i+1) (tcar c q (nthd d i) / 4294967296) (mbor (nthd u i) (tcar c q (nthd d i) % 4294967296) s):=by
 have hil:i<os.length:=by rw [h.len];exact hi
 have hy:=hd.nth i
 obtain ⟨hT,hT2⟩:=tcar_lt h.car hq hy
 have hx:nthd u i<4294967296:=by
  have e:nthd u i=nthd os i:=by
   rw [nthd_lt hi,nthd_lt hil]
   have:=congrArg (fun l=>l[0]?) h.rest
   simp [hi,hil] at this
   exact this.symm
  rw [e];exact h.dig.nth i
 obtain ⟨o,t,ho,ht,he,e1,e2⟩:=take_digit (nthd u i) (tcar c q (nthd d i) % 4294967296) s hx (Nat.mod_lt _ (by omega)) h.bor
 rw [←e1,←e2]
 refine ⟨by rw [List.length_set];exact h.len,wdig_set h.dig i ho,?_,hT2,ht,?_⟩
 ·rw [List.drop_set_of_lt (by omega)]
  have:=congrArg (List.drop 1) h.rest
  rw [List.drop_drop,List.drop_drop] at this
  exact this
 ·rw [val_set_succ hil,val_take_succ u i,val_take_succ d i,Nat.mul_add,Nat.pow_succ]
  have hv:=h.value
  have e3:q*(4294967296 ^ i*nthd d i)=4294967296 ^ i*(q*nthd d i):=by rw [←Nat.mul_assoc,Nat.mul_comm q,Nat.mul_assoc]
  rw [e3]
  have e4:tcar c q (nthd d i) % 4294967296+4294967296*(tcar c q (nthd d i) / 4294967296)=c+q*nthd d i:=by unfold tcar;omega
  generalize tcar c q (nthd d i) % 4294967296=k at *
  generalize tcar c q (nthd d i) / 4294967296=c' at *
  generalize q*nthd d i=p at *
  generalize 4294967296 ^ i=P at *
  have e5:P*(k+s+o)=P*(nthd u i+4294967296*t):=by rw [he]
  have e6:P*(k+4294967296*c')=P*(c+p):=by rw [e4]
  rw [Nat.mul_assoc P 4294967296]
  simp only [Nat.mul_add] at *
  omega
theorem TakeAt.done {u d os:List Nat} {q c s:Nat} (h:TakeAt u d q os u.length c s) (hl:d.length<u.length) (hc:c=0):q*val d+val os=val u+4294967296 ^ u.length*s:=by
 have hv:=h.value
 rw [List.take_length,←h.len,List.take_length,List.take_of_length_le (by rw [h.len];omega),h.len,hc,Nat.zero_add] at hv
 exact hv
structure GiveAt (u d os:List Nat) (i c:Nat):Prop where
 len:os.length=u.length
 dig:Dig os
 rest:os.drop i=u.drop i
 car:c≤1
 value:val (os.take i)+4294967296 ^ i*c=val (u.take i)+val (d.take i)
theorem GiveAt.start (u d:List Nat) (hu:Dig u):GiveAt u d u 0 0:=⟨rfl,hu,rfl,by omega,by simp [val]⟩
theorem GiveAt.step {u d os:List Nat} {i c:Nat} (h:GiveAt u d os i c) (hd:Dig d) (hi:i<u.length) :
 GiveAt u d (os.set i ((c+nthd u i+nthd d i) % 4294967296)) (i+1) ((c+nthd u i+nthd d i) / 4294967296):=by
 have hil:i<os.length:=by rw [h.len];exact hi
 have hy:=hd.nth i
 have hx:nthd u i<4294967296:=by
  have e:nthd u i=nthd os i:=by
   rw [nthd_lt hi,nthd_lt hil]
   have:=congrArg (fun l=>l[0]?) h.rest
   simp [hi,hil] at this
   exact this.symm
  rw [e];exact h.dig.nth i
 have hc:=h.car
 refine ⟨by rw [List.length_set];exact h.len,wdig_set h.dig i (Nat.mod_lt _ (by omega)),?_,by omega,?_⟩
 ·rw [List.drop_set_of_lt (by omega)]
  have:=congrArg (List.drop 1) h.rest
  rw [List.drop_drop,List.drop_drop] at this
  exact this
 ·rw [val_set_succ hil,val_take_succ u i,val_take_succ d i,Nat.pow_succ]
  exact (carry_step _ c (nthd u i) (nthd d i) _ _ _ h.value).trans (by omega)
theorem GiveAt.done {u d os:List Nat} {c:Nat} (h:GiveAt u d os u.length c) (hl:d.length<u.length):val os+4294967296 ^ u.length*c=val u+val d:=by
 have hv:=h.value
 rw [List.take_length,←h.len,List.take_length,List.take_of_length_le (by rw [h.len];omega),h.len] at hv
 exact hv
end
end Go.Proofs.YtkljafmdbajfeaaGreatDoor
