/- Long division: shift, back, and the rounds, in digits. -/
import Derived.Outline
import Derived.StillTailTactics
import Derived.Deep.RegionHeld3
import Derived.Test.YtkljafmdbajfeaaGreatDoorNoH11
namespace Go.Proofs.YtkljafmdbajfeaaGreatDoor
set_option linter.unusedVariables false
set_option linter.unusedSimpArgs false
open Go.Lib (hid)
section
open Go.RowKit
structure ShAt (a os:List Nat) (s i:Nat):Prop where
 len:os.length=a.length+1
 dig:Dig os
 value:val os=val (a.take i)*2 ^ s
 low:nthd os i<2 ^ s
 zero:∀ j,i<j→nthd os j=0
theorem val_zeros (n:Nat):val (List.replicate n 0)=0:=by
 induction n with
 | zero=>rfl
 | succ n ih=>rw [List.replicate_succ];simp only [val];omega
theorem nthd_zeros (n j:Nat):nthd (List.replicate n 0) j=0:=by
 unfold nthd;rw [List.getD_eq_getElem?_getD,List.getElem?_replicate];split<;>rfl
theorem ShAt.start (a:List Nat) (s:Nat):ShAt a (List.replicate (a.length+1) 0) s 0 :=
 ⟨by simp,fun d hd=>by rw [(List.mem_replicate.1 hd).2];omega,by rw [val_zeros];simp [val],by rw [nthd_zeros];exact Nat.two_pow_pos s,fun j _=>nthd_zeros _ j⟩
theorem pow_split {s:Nat} (hs:s<32):4294967296=2 ^ s*2 ^ (32-s):=by
 rw [←Nat.pow_add,show s+(32-s)=32 by omega]
theorem sh_low {x s:Nat} (hs:s<32):x*2 ^ s % 4294967296=2 ^ s*(x % 2 ^ (32-s)):=by
 rw [Nat.mul_comm x]
 have h:=Nat.mul_mod_mul_left (2 ^ s) x (2 ^ (32-s))
 rw [←pow_split hs] at h;exact h
theorem sh_room {x s o:Nat} (hs:s<32) (ho:o<2 ^ s):o+x*2 ^ s % 4294967296<4294967296∧o ||| x*2 ^ s % 4294967296=o+x*2 ^ s % 4294967296:=by
 rw [sh_low hs]
 have h1:x % 2 ^ (32-s)<2 ^ (32-s):=Nat.mod_lt _ (Nat.two_pow_pos _)
 refine ⟨?_,?_⟩
 ·have h2:2 ^ s*(x % 2 ^ (32-s))+2 ^ s≤2 ^ s*2 ^ (32-s):=by
   rw [show 2 ^ s*(x % 2 ^ (32-s))+2 ^ s=2 ^ s*(x % 2 ^ (32-s)+1) by rw [Nat.mul_add,Nat.mul_one]]
   exact Nat.mul_le_mul_left _ h1
  rw [←pow_split hs] at h2
  omega
 ·rw [Nat.or_comm,←Nat.two_pow_add_eq_or_of_lt ho,Nat.add_comm]
theorem sh_top {x s:Nat} (hs:s<32) (hx:x<4294967296):x*2 ^ s / 4294967296<2 ^ s:=by
 rw [Nat.div_lt_iff_lt_mul (by omega),Nat.mul_comm (2 ^ s)]
 exact Nat.mul_lt_mul_of_pos_right hx (Nat.two_pow_pos s)
theorem ShAt.step {a os:List Nat} {s i:Nat} (h:ShAt a os s i) (ha:Dig a) (hs:s<32) (hi:i<a.length) :
 ShAt a ((os.set i (nthd os i+nthd a i*2 ^ s % 4294967296)).set (i+1) (nthd a i*2 ^ s / 4294967296)) s (i+1):=by
 have hx:=ha.nth i
 have hr:=(sh_room (x:=nthd a i) hs h.low).1
 have ht:=sh_top hs hx
 have hp:2 ^ s≤4294967296:=by
  have:2 ^ s≤2 ^ 32:=Nat.pow_le_pow_right (by omega) (by omega)
  omega
 have hl1:i<os.length:=by rw [h.len];omega
 refine ⟨by simp [h.len],wdig_set (wdig_set h.dig _ hr) _ (by omega),?_,?_,fun j hj=>?_⟩
 ·have h1:=wval_set os i (nthd os i+nthd a i*2 ^ s % 4294967296) hl1
  have h2:=wval_set (os.set i (nthd os i+nthd a i*2 ^ s % 4294967296)) (i+1) (nthd a i*2 ^ s / 4294967296) (by rw [List.length_set,h.len];omega)
  rw [wnthd_set _ _ _ _ (by omega),h.zero (i+1) (by omega),Nat.mul_zero,Nat.add_zero,Nat.pow_succ] at h2
  rw [val_take_succ,Nat.add_mul,←h.value,h2]
  have e:nthd a i*2 ^ s % 4294967296+4294967296*(nthd a i*2 ^ s / 4294967296)=nthd a i*2 ^ s:=Nat.mod_add_div _ _
  have e2:4294967296 ^ i*nthd a i*2 ^ s=4294967296 ^ i*(nthd a i*2 ^ s):=Nat.mul_assoc _ _ _
  rw [e2]
  generalize nthd a i*2 ^ s=v at *
  generalize 4294967296 ^ i=P at *
  have e3:P*(v % 4294967296+4294967296*(v / 4294967296))=P*v:=by rw [e]
  rw [Nat.mul_assoc P 4294967296]
  simp only [Nat.mul_add] at *
  omega
 ·have:nthd ((os.set i (nthd os i+nthd a i*2 ^ s % 4294967296)).set (i+1) (nthd a i*2 ^ s / 4294967296)) (i+1)=nthd a i*2 ^ s / 4294967296:=by
   rw [nthd_lt (by simp [h.len];omega)];simp
  rw [this];exact ht
 ·rw [wnthd_set _ _ _ _ (by omega),wnthd_set _ _ _ _ (by omega)];exact h.zero j (by omega)
theorem ShAt.done {a os:List Nat} {s:Nat} (h:ShAt a os s a.length):val os=val a*2 ^ s:=by
 have:=h.value;rw [List.take_length] at this;exact this
theorem back_digit {s x y:Nat} (hs:s<32) (hx:x<4294967296):2 ^ s*((x+4294967296*y) / 2 ^ s % 4294967296)+x % 2 ^ s=x+4294967296*(y % 2 ^ s):=by
 have hp:=Nat.two_pow_pos s
 have hq:=Nat.two_pow_pos (32-s)
 have hB:=pow_split hs
 have e1:(x+4294967296*y) / 2 ^ s=x / 2 ^ s+2 ^ (32-s)*y:=by
  rw [hB,Nat.mul_assoc,Nat.add_mul_div_left _ _ hp]
 have e2:2 ^ (32-s)*y=2 ^ (32-s)*(y % 2 ^ s)+4294967296*(y / 2 ^ s):=by
  have:=Nat.mod_add_div y (2 ^ s)
  have e:2 ^ (32-s)*y=2 ^ (32-s)*(y % 2 ^ s+2 ^ s*(y / 2 ^ s)):=by rw [this]
  rw [e,Nat.mul_add,←Nat.mul_assoc,Nat.mul_comm (2 ^ (32-s)) (2 ^ s),←hB]
 have h1:x / 2 ^ s<2 ^ (32-s):=by rw [Nat.div_lt_iff_lt_mul hp,Nat.mul_comm,←hB];exact hx
 have h2:y % 2 ^ s<2 ^ s:=Nat.mod_lt _ hp
 have h3:2 ^ (32-s)*(y % 2 ^ s)+2 ^ (32-s)≤4294967296:=by
  have:2 ^ (32-s)*(y % 2 ^ s+1)≤2 ^ (32-s)*2 ^ s:=Nat.mul_le_mul_left _ h2
  rw [Nat.mul_comm (2 ^ (32-s)) (2 ^ s),←hB,Nat.mul_add,Nat.mul_one] at this
  exact this
 rw [e1,e2,←Nat.add_assoc,Nat.add_mul_mod_self_left,Nat.mod_eq_of_lt (by omega),Nat.mul_add,←Nat.mul_assoc,←hB]
 have:=Nat.mod_add_div x (2 ^ s)
 omega
theorem back_step {s x y P T R l:Nat} (hs:s<32) (hx:x<4294967296) (h:2 ^ s*T+l=R+P*(x % 2 ^ s)) :
 2 ^ s*(T+P*((x+4294967296*y) / 2 ^ s % 4294967296))+l=R+P*x+P*4294967296*(y % 2 ^ s):=by
 have e:=congrArg (P*·) (back_digit (y:=y) hs hx)
 simp only [Nat.mul_add] at e ⊢
 have e2:2 ^ s*(P*((x+4294967296*y) / 2 ^ s % 4294967296))=P*(2 ^ s*((x+4294967296*y) / 2 ^ s % 4294967296)):=by rw [←Nat.mul_assoc,Nat.mul_comm (2 ^ s) P,Nat.mul_assoc]
 rw [e2,Nat.mul_assoc P 4294967296]
 omega
def putD (rest:List Nat) (j:Nat) (nw:List Nat):List Nat:=rest.take j ++ nw ++ rest.drop (j+nw.length)
theorem putD_len {rest nw:List Nat} {j:Nat} (h:j+nw.length≤rest.length):(putD rest j nw).length=rest.length:=by unfold putD;simp;omega
theorem putD_dig {rest nw:List Nat} {j:Nat} (h:Dig rest) (hn:Dig nw):Dig (putD rest j nw):=fun d hd=>by
 unfold putD at hd
 rcases List.mem_append.1 hd with h1|h1
 ·rcases List.mem_append.1 h1 with h2|h2
  ·exact h d (List.mem_of_mem_take h2)
  ·exact hn d h2
 ·exact h d (List.mem_of_mem_drop h1)
theorem putD_val {rest nw:List Nat} {j:Nat} (h:j+nw.length≤rest.length):val (putD rest j nw)+4294967296 ^ j*val ((rest.drop j).take nw.length)=val rest+4294967296 ^ j*val nw:=by
 have e:rest=rest.take j ++ ((rest.drop j).take nw.length ++ rest.drop (j+nw.length)):=by
  rw [←List.drop_drop,List.take_append_drop,List.take_append_drop]
 have hl:(rest.take j).length=j:=by simp;omega
 have hl2:((rest.drop j).take nw.length).length=nw.length:=by simp;omega
 have e2:val rest=val (rest.take j)+4294967296 ^ j*(val ((rest.drop j).take nw.length)+4294967296 ^ nw.length*val (rest.drop (j+nw.length))):=by
  conv=>lhs;rw [e]
  rw [val_append,val_append,hl,hl2]
 unfold putD
 rw [e2,List.append_assoc,val_append,val_append,hl]
 simp only [Nat.mul_add]
 omega
theorem putD_nth {rest nw:List Nat} {j i:Nat} (h:j+nw.length≤rest.length) (hi:j+nw.length≤i):nthd (putD rest j nw) i=nthd rest i:=by
 unfold nthd putD
 rw [List.getD_eq_getElem?_getD,List.getD_eq_getElem?_getD,List.getElem?_append_right (by simp;omega),List.getElem?_drop]
 congr 2
 simp;omega
theorem putD_win {rest nw:List Nat} {j:Nat} (h:j+nw.length≤rest.length):(putD rest j nw).drop j=nw ++ rest.drop (j+nw.length):=by
 unfold putD
 rw [List.append_assoc,List.drop_append]
 have hl:(rest.take j).length=j:=by simp;omega
 rw [hl,Nat.sub_self,List.drop_zero,List.drop_eq_nil_of_le (by omega),List.nil_append]
structure LongAt (A D n:Nat) (rest out:List Nat) (j:Nat):Prop where
 dig:Dig rest
 dout:Dig out
 value:val rest+val out*D=A
 top:val ((rest.drop j).take n)<D
 high:∀ i,j+n≤i→nthd rest i=0
 zero:∀ i,i<j→nthd out i=0
theorem LongAt.under {A D n:Nat} {rest out:List Nat} {j:Nat} (h:LongAt A D n rest out (j+1)) (hj:j+n<rest.length) :
 val ((rest.drop j).take (n+1))=nthd rest j+4294967296*val ((rest.drop (j+1)).take n)∧val ((rest.drop j).take (n+1))<D*4294967296:=by
 have e:(rest.drop j).take (n+1)=nthd rest j :: (rest.drop (j+1)).take n:=by
  rw [drop_nthd (by omega),List.take_succ_cons]
 rw [e]
 have h1:=h.dig.nth j
 have h2:=h.top
 refine ⟨by simp only [val],?_⟩
 simp only [val]
 have h3:4294967296*(val ((rest.drop (j+1)).take n)+1)≤4294967296*D:=Nat.mul_le_mul_left _ h2
 rw [Nat.mul_comm D];omega
theorem LongAt.step {A D n:Nat} {rest out nw:List Nat} {j q:Nat} (h:LongAt A D n rest out (j+1)) (hj:j+n<rest.length) (hjo:j<out.length) (hD:D<4294967296 ^ n)
 (hq:q=val ((rest.drop j).take (n+1)) / D) (hqb:q<4294967296) (hnl:nw.length=n+1) (hnd:Dig nw) (hnv:val nw+q*D=val ((rest.drop j).take (n+1))):LongAt A D n (putD rest j nw) (out.set j q) j:=by
 have hD0:0<D:=by
  rcases Nat.eq_zero_or_pos D with e|e
  ·have:=(h.under hj).2;rw [e] at this;simp at this
  ·exact e
 have hlt:val nw<D:=by
  have h1:=Nat.mod_add_div (val ((rest.drop j).take (n+1))) D
  have h2:=Nat.mod_lt (val ((rest.drop j).take (n+1))) hD0
  rw [Nat.mul_comm D,←hq] at h1
  omega
 have hlen:j+nw.length≤rest.length:=by omega
 have hsplit:val nw=val (nw.take n)+4294967296 ^ n*nthd nw n:=by
  have:=val_take_succ nw n
  rwa [←hnl,List.take_length] at this
 have hz:nthd nw n=0:=by
  rcases Nat.eq_zero_or_pos (nthd nw n) with e|e
  ·exact e
  ·have:4294967296 ^ n*1≤4294967296 ^ n*nthd nw n:=Nat.mul_le_mul_left _ e
   omega
 refine ⟨putD_dig h.dig hnd,wdig_set h.dout j hqb,?_,?_,fun i hi=>?_,fun i hi=>?_⟩
 ·have h1:=putD_val hlen
  rw [hnl,←hnv] at h1
  have h2:=wval_set out j q hjo
  rw [h.zero j (by omega),Nat.mul_zero,Nat.add_zero] at h2
  rw [h2,Nat.add_mul]
  have h3:=h.value
  simp only [Nat.mul_add] at h1
  rw [Nat.mul_assoc]
  omega
 ·rw [putD_win hlen,List.take_append_of_le_length (by omega)]
  omega
 ·rcases Nat.lt_or_ge i (j+n+1) with e|e
  ·have e2:i=j+n:=by omega
   subst e2
   have:nthd (putD rest j nw) (j+n)=nthd nw n:=by
    have h1:nthd ((putD rest j nw).drop j) n=nthd (putD rest j nw) (j+n):=by
     unfold nthd;rw [List.getD_eq_getElem?_getD,List.getD_eq_getElem?_getD,List.getElem?_drop]
    rw [←h1,putD_win hlen]
    unfold nthd;rw [List.getD_eq_getElem?_getD,List.getD_eq_getElem?_getD,List.getElem?_append_left (by omega)]
   rw [this,hz]
  ·rw [putD_nth hlen (by omega)];exact h.high i (by omega)
 ·rw [wnthd_set _ _ _ _ (by omega)];exact h.zero i (by omega)
theorem LongAt.done {A D n:Nat} {rest out:List Nat} (h:LongAt A D n rest out 0) (hn:n≤rest.length):val out=A / D∧val (rest.take n)=A % D∧val rest=val (rest.take n):=by
 have ht:=h.top
 rw [List.drop_zero] at ht
 have hz:∀ m,n≤m→val (rest.take m)=val (rest.take n):=fun m hm=>by
  induction m with
  | zero=>have:n=0:=by omega
          subst this;rfl
  | succ m ih =>
    rcases Nat.lt_or_ge m n with e|e
    ·have:n=m+1:=by omega
     rw [this]
    ·rw [val_take_succ,h.high m (by omega),Nat.mul_zero,Nat.add_zero];exact ih e
 have hr:val rest=val (rest.take n):=by
  have:=hz rest.length hn
  rwa [List.take_length] at this
 have hv:=h.value
 rw [hr] at hv
 have hD0:0<D:=by omega
 refine ⟨?_,?_,hr⟩
 ·rw [←hv,Nat.add_mul_div_right _ _ hD0,Nat.div_eq_of_lt ht,Nat.zero_add]
 ·rw [←hv,Nat.add_mul_mod_self_right,Nat.mod_eq_of_lt ht]
end
section
open Go.RowKit
theorem sh_wrap {x s:Nat} (hs:s<32) (hx:x<4294967296):IntKind.u64.wrap ((x:Int)*2 ^ s)=((x*2 ^ s:Nat):Int):=by
 have h1:2 ^ s≤2 ^ 31:=Nat.pow_le_pow_right (by omega) (by omega)
 have h2:x*2 ^ s≤4294967295*2 ^ 31:=Nat.mul_le_mul (by omega) h1
 have e:((x*2 ^ s:Nat):Int)=(x:Int)*2 ^ s:=by rw [Int.natCast_mul,Int.natCast_pow];rfl
 rw [←e,IntKind.wrap_u64]
 omega
set_option maxRecDepth 100000 in
set_option maxHeartbeats 1000000 in
theorem shift_calls (A:Option Addr) (c:Nat) (a:List Nat) (s:Nat) (w:World) (hs:s<32) (hm:a.length≤100000000) (ha:Dig a) (hA:Wds w A a) :
 Calls Tryz.prog 235 #[.slice A a.length c,.int .i64 s] w fun e w'=>∃ p os,e=.returned (.slice (some ⟨p,0,none⟩) (a.length+1) (a.length+1))∧w.heap.size≤p∧UBlk w' p os∧ShAt a os s a.length∧Below w.heap.size w w':=by
 have hmk:=fun w=>run_makeU32 w (a.length+1) (by omega)
 have ec:((a.length+1:Nat):Int)=(a.length:Int)+1:=by push_cast;rfl
 rw [ec] at hmk
 clear ec
 go_enter Tryz.func235,Tryz.ntmps235
 go_wp2
 clear hmk
 go_loopw [6,7,8,15] (fun _ _ _ i wr=>∃ (n:Nat) (os:List Nat),n≤a.length∧i=.int .i64 n∧UBlk wr w.heap.size os∧Hid (ShAt a os s n)∧Below w.heap.size w wr) (fun _ _ _ i _=>a.length-(intOf i).toNat)
 case atStart=>exact ⟨0,_,Nat.zero_le _,rfl,UBlk.made _ _ _ rfl,hid (ShAt.start a s),(Below.refl _ _).alloc (Nat.le_refl _) _⟩
 case round =>
  obtain ⟨i,os,hi,rfl,hos,hsh,hbe⟩:=hrel
  by_cases hlt:i<a.length
  ·obtain ⟨b1,o1,rfl,g1⟩:=(hA.ext hbe) i hlt
   have hx:=ha.nth i
   have hln:Hid (os.length=a.length+1):=hid hsh.out.len
   have g3:=hos.cell i (by rw [hln.out];omega)
   have f3:=Blk.free hos i
   have g4:=hos.cell (i+1) (by rw [hln.out];omega)
   have f4:=Blk.free hos (i+1)
   have hn1:(i:Int)<a.length:=by omega
   have ho:nthd os i<4294967296:=hsh.out.dig.nth i
   have hw1:IntKind.u64.wrap ((nthd a i:Int)*2 ^ s)=((nthd a i*2 ^ s:Nat):Int):=sh_wrap hs hx
   have E1:Hid (bits .or .u32 (nthd os i:Int) (IntKind.u64.wrap ((nthd a i:Int)*2 ^ s) % 4294967296)=((nthd os i+nthd a i*2 ^ s % 4294967296:Nat):Int)):=hid (by
    rw [hw1,←castm,u32_or_nat _ _ ho (Nat.mod_lt _ (by omega)),(sh_room hs hsh.out.low).2])
   have E2:Hid (IntKind.u64.wrap ((nthd a i:Int)*2 ^ s) / 4294967296 % 4294967296=((nthd a i*2 ^ s / 4294967296:Nat):Int)):=hid (by
    rw [hw1,←castd,←castm,Nat.mod_eq_of_lt]
    have:=sh_top hs hx
    have:2 ^ s≤2 ^ 32:=Nat.pow_le_pow_right (by omega) (by omega)
    omega)
   have hst:=hid (hsh.out.step ha hs hlt)
   have HS:=hid (fun wq:World=>fun (h:UBlk wq w.heap.size os)=>(h.set i (nthd os i+nthd a i*2 ^ s % 4294967296)).set (i+1) (nthd a i*2 ^ s / 4294967296))
   have HOS:=hid hos
   clear hw1 hos
   go_wp2
   go_roundw
   case rel=>exact ⟨i+1,_,by omega,by go_num,by rw [E1.out,E2.out];exact HS.out _ HOS.out,hst.out,(hbe.setCell (Nat.le_refl _) _).setCell (Nat.le_refl _) _⟩
   case measure=>simp [intOf];omega
  ·obtain rfl:i=a.length:=by omega
   go_wp2
   go_ret
   exact ⟨_,_,rfl,Nat.le_refl _,hos,hsh.out,hbe⟩
end
section
open Go.RowKit
theorem putD_nth_in {rest nw:List Nat} {j i:Nat} (h:j+nw.length≤rest.length) (hi:i<nw.length):nthd (putD rest j nw) (j+i)=nthd nw i:=by
 have h1:nthd ((putD rest j nw).drop j) i=nthd (putD rest j nw) (j+i):=by
  unfold nthd;rw [List.getD_eq_getElem?_getD,List.getD_eq_getElem?_getD,List.getElem?_drop]
 rw [←h1,putD_win h]
 unfold nthd;rw [List.getD_eq_getElem?_getD,List.getD_eq_getElem?_getD,List.getElem?_append_left (by omega)]
theorem putD_set {rest nw:List Nat} {j i:Nat} (x:Nat) (h:j+nw.length≤rest.length) (hi:i<nw.length):(putD rest j nw).set (j+i) x=putD rest j (nw.set i x):=by
 have hl:(rest.take j).length=j:=by simp;omega
 unfold putD
 rw [List.set_append_left _ _ (by simp;omega),List.set_append_right _ _ (by omega),hl,Nat.add_sub_cancel_left,List.length_set]
theorem putD_self {rest:List Nat} {j l:Nat} (h:j+l≤rest.length):putD rest j ((rest.drop j).take l)=rest:=by
 unfold putD
 have e:((rest.drop j).take l).length=l:=by simp;omega
 rw [e,←List.drop_drop,List.append_assoc,List.take_append_drop,List.take_append_drop]
theorem Wds.but2 {w w':World} {A:Option Addr} {ds:List Nat} {p:Nat} (h:Wds w A ds) (hne:∀ b o,A=some ⟨b,o,none⟩→b≠p) (hb:But p w w'):Wds w' A ds:=fun i hi=>by
 obtain ⟨b,off,e,hc⟩:=h i hi
 exact ⟨b,off,e,by rw [World.cell?_of_block (w:=w) (hb.block b (cell_lt hc) (hne b off e))];exact hc⟩
theorem tdig_w {x k s:Nat} (hx:x<4294967296) (hk:k<4294967296) (hs:s≤1):IntKind.u64.wrap (IntKind.u64.wrap ((x:Int)-k)-s) % 4294967296=((mdig x k s:Nat):Int):=by
 simp only [IntKind.wrap_u64,mdig];split<;>omega
theorem tbor_w {x k s:Nat} (hx:x<4294967296) (hk:k<4294967296) (hs:s≤1):IntKind.u64.wrap (IntKind.u64.wrap ((x:Int)-k)-s) / 9223372036854775808=((mbor x k s:Nat):Int):=by
 simp only [IntKind.wrap_u64,mbor];split<;>omega
theorem nthd_win {rest:List Nat} {j l i:Nat} (hi:i<l):nthd ((rest.drop j).take l) i=nthd rest (j+i):=by
 unfold nthd;rw [List.getD_eq_getElem?_getD,List.getD_eq_getElem?_getD,List.getElem?_take,if_pos hi,List.getElem?_drop]
theorem TakeAt.nth {u d os:List Nat} {q i c s:Nat} (h:TakeAt u d q os i c s) (hi:i<u.length):nthd u i=nthd os i:=by
 have hil:i<os.length:=by rw [h.len];exact hi
 rw [nthd_lt hi,nthd_lt hil]
 have:=congrArg (fun l=>l[0]?) h.rest
 simp [hi,hil] at this
 exact this.symm
set_option maxRecDepth 100000 in
set_option maxHeartbeats 1000000 in
theorem take_calls (R j l cr:Nat) (os:List Nat) (A:Option Addr) (c:Nat) (d:List Nat) (q:Nat) (w:World) (hos:UBlk w R os) (hjl:j+l≤os.length) (hm:os.length≤1000000000) (hdl:d.length≤1000000000)
 (ho:Dig os) (hd:Dig d) (hA:Wds w A d) (hne:∀ b o,A=some ⟨b,o,none⟩→b≠R) (hq:q<4294967296) :
 Calls Tryz.prog 236 #[.slice (some ⟨R,j,none⟩) l cr,.slice A d.length c,.int .u64 q] w fun e w'=>∃ nw cc s,e=.returned (.bool (decide (s≠0)))∧UBlk w' R (putD os j nw)∧TakeAt ((os.drop j).take l) d q nw l cc s∧(d.length<l→cc=0)∧But R w w':=by
 go_enter Tryz.func236,Tryz.ntmps236
 go_wp2
 go_loopw [7,8,9,10,13] (fun b c _ _ i wr=>∃ (n:Nat) (nw:List Nat) (cc s:Nat),n≤l∧i=.int .i64 n∧c=.int .u64 cc∧b=.int .u64 s∧UBlk wr R (putD os j nw)∧Hid (TakeAt ((os.drop j).take l) d q nw n cc s)∧Hid (d.length<n→cc=0)∧But R w wr) (fun _ _ _ _ i _=>l-(intOf i).toNat)
 case atStart=>exact ⟨0,_,0,0,Nat.zero_le _,rfl,rfl,rfl,by rw [putD_self hjl];exact hos,hid (TakeAt.start _ d q ((ho.drop j).take l)),hid (fun _=>rfl),But.refl _ _⟩
 case round =>
  obtain ⟨i,nw,cc,s,hi,rfl,rfl,rfl,hos,hta,hcz,hbe⟩:=hrel
  by_cases hlt:i<l
  ·have hul:((os.drop j).take l).length=l:=by simp;omega
   have hln:nw.length=l:=by rw [hta.out.len,hul]
   have hst:=hta.out.step hd (by rw [hul];exact hlt) hq
   have hnx:=hta.out.nth (by rw [hul];exact hlt)
   have hcc:=hta.out.car
   have hs1:=hta.out.bor
   have hx:nthd nw i<4294967296:=hta.out.dig.nth i
   have g3:=hos.cell (j+i) (by rw [putD_len (by omega)];omega)
   rw [putD_nth_in (by omega) (by omega)] at g3
   have f3:=Blk.free hos (j+i)
   have hset:=fun x:Nat=>hos.set (j+i) x
   have HSET:Hid (∀ x:Nat,UBlk (wr.setCell ⟨R,j+i,none⟩ (.int .u32 (x:Nat))) R (putD os j (nw.set i x))):=hid fun x=>by
    rw [←putD_set x (by omega) (by omega)];exact hset x
   rw [hnx] at hst
   have HST:=hid hst
   have hn1:(i:Int)<l:=by omega
   clear hst hnx hset hul hln hos
   by_cases hlm:i<d.length
   ·obtain ⟨b2,o2,rfl,g2⟩:=(hA.but2 hne hbe) i hlm
    have y:nthd d i<4294967296:=hd.nth i
    have hp:=wmul_digit hq y
    obtain ⟨t1,t2⟩:=tcar_lt hcc hq y
    have hc1:((tcar cc q (nthd d i):Nat):Int)=(cc:Int)+(q:Int)*(nthd d i:Nat):=by unfold tcar;rw [Int.natCast_add,Int.natCast_mul]
    have hmk:bits .and .u64 ((cc:Int)+(q:Int)*(nthd d i:Nat)) 4294967295=((tcar cc q (nthd d i) % 4294967296:Nat):Int):=by rw [←hc1];exact Mul64.maskN _ t1
    have E0:Hid (((tcar cc q (nthd d i) / 4294967296:Nat):Int)=((cc:Int)+(q:Int)*(nthd d i:Nat)) / 4294967296):=hid (by rw [←hc1,castd])
    have E1:Hid (IntKind.u64.wrap (IntKind.u64.wrap ((nthd nw i:Int)-bits .and .u64 ((cc:Int)+(q:Int)*(nthd d i:Nat)) 4294967295)-s) % 4294967296=((mdig (nthd nw i) (tcar cc q (nthd d i) % 4294967296) s:Nat):Int)):=hid (by
     rw [hmk];exact tdig_w hx (Nat.mod_lt _ (by omega)) hs1)
    have E2:Hid (IntKind.u64.wrap (IntKind.u64.wrap ((nthd nw i:Int)-bits .and .u64 ((cc:Int)+(q:Int)*(nthd d i:Nat)) 4294967295)-s) / 9223372036854775808=((mbor (nthd nw i) (tcar cc q (nthd d i) % 4294967296) s:Nat):Int)):=hid (by
     rw [hmk];exact tbor_w hx (Nat.mod_lt _ (by omega)) hs1)
    clear hc1 hmk
    go_wp2
    go_roundw
    case rel=>exact ⟨i+1,_,_,_,by omega,by go_num,by rw [←E0.out],by rw [E2.out],by rw [E1.out];exact HSET.out _,HST.out,hid (fun h=>by omega),hbe.set _ _⟩
    case measure=>simp [intOf];omega
   ·have hz:nthd d i=0:=nthd_out (by omega)
    rw [hz] at HST
    have hmk:bits .and .u64 (cc:Int) 4294967295=((tcar cc q 0 % 4294967296:Nat):Int):=by rw [Mul64.maskN _ (by omega)];rfl
    have E0:Hid (((tcar cc q 0 / 4294967296:Nat):Int)=(cc:Int) / 4294967296):=hid (by show ((cc / 4294967296:Nat):Int)=_;rw [castd])
    have E1:Hid (IntKind.u64.wrap (IntKind.u64.wrap ((nthd nw i:Int)-bits .and .u64 (cc:Int) 4294967295)-s) % 4294967296=((mdig (nthd nw i) (tcar cc q 0 % 4294967296) s:Nat):Int)):=hid (by
     rw [hmk];exact tdig_w hx (Nat.mod_lt _ (by omega)) hs1)
    have E2:Hid (IntKind.u64.wrap (IntKind.u64.wrap ((nthd nw i:Int)-bits .and .u64 (cc:Int) 4294967295)-s) / 9223372036854775808=((mbor (nthd nw i) (tcar cc q 0 % 4294967296) s:Nat):Int)):=hid (by
     rw [hmk];exact tbor_w hx (Nat.mod_lt _ (by omega)) hs1)
    have hlm':decide ((i:Int)<d.length)=false:=decide_eq_false (by omega)
    clear hmk hz
    go_wp2
    go_roundw
    case rel=>exact ⟨i+1,_,_,_,by omega,by go_num,by rw [←E0.out],by rw [E2.out],by rw [E1.out];exact HSET.out _,HST.out,hid (fun h=>by show cc / 4294967296=0;omega),hbe.set _ _⟩
    case measure=>simp [intOf];omega
  ·obtain rfl:i=l:=by omega
   by_cases h0:s=0
   ·subst h0
    go_wp2
    go_ret
    exact ⟨nw,cc,0,rfl,hos,hta.out,hcz.out,hbe⟩
   ·have hs1:=hta.out.bor
    obtain rfl:s=1:=by omega
    go_wp2
    go_ret
    exact ⟨nw,cc,1,rfl,hos,hta.out,hcz.out,hbe⟩
set_option maxRecDepth 100000 in
set_option maxHeartbeats 1000000 in
theorem give_calls (R j l cr:Nat) (os:List Nat) (A:Option Addr) (c:Nat) (d:List Nat) (w:World) (hos:UBlk w R os) (hjl:j+l≤os.length) (hm:os.length≤1000000000) (hdl:d.length≤1000000000)
 (ho:Dig os) (hd:Dig d) (hA:Wds w A d) (hne:∀ b o,A=some ⟨b,o,none⟩→b≠R) :
 Calls Tryz.prog 237 #[.slice (some ⟨R,j,none⟩) l cr,.slice A d.length c] w fun e w'=>∃ nw cc,e=.returned (.tuple #[])∧UBlk w' R (putD os j nw)∧GiveAt ((os.drop j).take l) d nw l cc∧But R w w':=by
 go_enter Tryz.func237,Tryz.ntmps237
 go_wp2
 go_loopw [4,5,8] (fun c _ i wr=>∃ (n:Nat) (nw:List Nat) (cc:Nat),n≤l∧i=.int .i64 n∧c=.int .u64 cc∧UBlk wr R (putD os j nw)∧Hid (GiveAt ((os.drop j).take l) d nw n cc)∧But R w wr) (fun _ _ i _=>l-(intOf i).toNat)
 case atStart=>exact ⟨0,_,0,Nat.zero_le _,rfl,rfl,by rw [putD_self hjl];exact hos,hid (GiveAt.start _ d ((ho.drop j).take l)),But.refl _ _⟩
 case round =>
  obtain ⟨i,nw,cc,hi,rfl,rfl,hos,hta,hbe⟩:=hrel
  by_cases hlt:i<l
  ·have hul:((os.drop j).take l).length=l:=by simp;omega
   have hln:nw.length=l:=by rw [hta.out.len,hul]
   have hst:=hta.out.step hd (by rw [hul];exact hlt)
   have hnx:nthd ((os.drop j).take l) i=nthd nw i:=by
    rw [nthd_lt (by omega),nthd_lt (by omega)]
    have:=congrArg (fun l=>l[0]?) hta.out.rest
    simp [hln,hlt,hul] at this
    simp;exact this.symm
   have hcc:=hta.out.car
   have hx:nthd nw i<4294967296:=hta.out.dig.nth i
   have g3:=hos.cell (j+i) (by rw [putD_len (by omega)];omega)
   rw [putD_nth_in (by omega) (by omega)] at g3
   have f3:=Blk.free hos (j+i)
   have hset:=fun x:Nat=>hos.set (j+i) x
   have HSET:Hid (∀ x:Nat,UBlk (wr.setCell ⟨R,j+i,none⟩ (.int .u32 (x:Nat))) R (putD os j (nw.set i x))):=hid fun x=>by
    rw [←putD_set x (by omega) (by omega)];exact hset x
   rw [hnx] at hst
   have HST:=hid hst
   have hn1:(i:Int)<l:=by omega
   clear hst hnx hset hul hln hos
   by_cases hlm:i<d.length
   ·obtain ⟨b2,o2,rfl,g2⟩:=(hA.but2 hne hbe) i hlm
    have y:nthd d i<4294967296:=hd.nth i
    have E1:Hid ((((cc+nthd nw i+nthd d i) % 4294967296:Nat):Int)=((cc:Int)+nthd nw i+nthd d i) % 4294967296):=hid (castm3 _ _ _)
    have E2:Hid ((((cc+nthd nw i+nthd d i) / 4294967296:Nat):Int)=((cc:Int)+nthd nw i+nthd d i) / 4294967296):=hid (castd3 _ _ _)
    go_wp2
    go_roundw
    case rel=>exact ⟨i+1,_,_,by omega,by go_num,by rw [←E2.out],by rw [←E1.out];exact HSET.out _,HST.out,hbe.set _ _⟩
    case measure=>simp [intOf];omega
   ·have hz:nthd d i=0:=nthd_out (by omega)
    rw [hz,Nat.add_zero] at HST
    have E1:Hid ((((cc+nthd nw i) % 4294967296:Nat):Int)=((cc:Int)+nthd nw i) % 4294967296):=hid (by omega)
    have E2:Hid ((((cc+nthd nw i) / 4294967296:Nat):Int)=((cc:Int)+nthd nw i) / 4294967296):=hid (by omega)
    have hlm':decide ((i:Int)<d.length)=false:=decide_eq_false (by omega)
    clear hz
    go_wp2
    go_roundw
    case rel=>exact ⟨i+1,_,_,by omega,by go_num,by rw [←E2.out],by rw [←E1.out];exact HSET.out _,HST.out,hbe.set _ _⟩
    case measure=>simp [intOf];omega
  ·obtain rfl:i=l:=by omega
   go_wp2
   go_end0
   exact ⟨nw,cc,rfl,hos,hta.out,hbe⟩
end
section
open Go.RowKit
set_option maxRecDepth 100000 in
set_option maxHeartbeats 2000000 in
theorem times_big (v u:Value) (n m:Nat) (w:World) (hbig:18446744073709551616≤n) (hn:(digits n).length≤100000000) (hm:(digits m).length≤100000000) (hv:WSl w v n) (hu:WSl w u m) :
 Calls Tryz.prog 199 #[v,u] w fun e w'=>∃ v,e=.returned v∧WSl w' v (n*m)∧Below w.heap.size w w':=by
 have hv0:=hv
 have hu0:=hu
 obtain ⟨A,ca,rfl,hca,hcm,hA⟩:=hv0
 obtain ⟨B,cb,rfl,hcb,hcm2,hB⟩:=hu0
 have ha:=digits_dig n
 have hb:=digits_dig m
 have hvn:=val_digits n
 have hvm:=val_digits m
 have hsm:∀ w2,WSl w2 (.slice A (digits n).length ca) n→_:=fun w2 h=>small_no n _ w2 hbig (by unfold maxLen;omega) h
 have hs:=hsm w hv
 have HS:=hid hs
 clear hsm hs
 go_enter Tryz.func199,Tryz.ntmps199
 go_wp2_with fail
 refine HS.out.mono ?_;rintro e w1 ⟨rfl,e1⟩
 rw [e1]
 clear e1 w1 HS hbig
 generalize digits n=a at *
 generalize digits m=b at *
 have HV:=hid hvn;have HM:=hid hvm
 clear hvn hvm hv hu hca hcb hcm hcm2
 have hmk:=fun w=>run_makeU32 w (a.length+b.length) (by omega)
 have ec:((a.length+b.length:Nat):Int)=(a.length:Int)+b.length:=by push_cast;rfl
 rw [ec] at hmk
 clear ec
 go_wp2_with fail
 clear hmk
 go_loopw [12,13,14,15,16,55] (fun _ _ _ _ _ i wr=>∃ (n:Nat) (os:List Nat),n≤a.length∧i=.int .i64 n∧UBlk wr w.heap.size os∧WRow a b os n∧Below w.heap.size w wr) (fun _ _ _ _ _ i _=>a.length-(intOf i).toNat)
 case atStart=>exact ⟨0,_,Nat.zero_le _,rfl,UBlk.made _ _ _ rfl,WRow.start a b,(Below.refl _ _).alloc (Nat.le_refl _) _⟩
 case round =>
  obtain ⟨i,os,hi,rfl,hos,hrow,hbe⟩:=hrel
  by_cases hlt:i<a.length
  ·have hin:=hid hrow.enter
   obtain ⟨b1,o1,rfl,g1⟩:=(hA.ext hbe) i hlt
   have hn1:(i:Int)<a.length:=by omega
   have hx:=ha.nth i
   clear hrow
   go_wp2_with fail
   go_loopw [14,15,16,62] (fun c _ _ k wr=>∃ (j cn:Nat) (os:List Nat),j≤b.length∧k=.int .i64 j∧c=.int .u64 cn∧UBlk wr w.heap.size os∧Hid (WIn a b os i j cn)∧Below w.heap.size w wr) (fun _ _ _ k _=>b.length-(intOf k).toNat)
   case atStart=>exact ⟨0,0,os,Nat.zero_le _,rfl,rfl,hos,hin,hbe⟩
   case round =>
    clear hos hin hbe
    obtain ⟨j,cn,os,hj,rfl,rfl,hos,hin,hbe⟩:=hrel
    have hcar:=hin.out.car
    have hln:Hid (os.length=a.length+b.length):=hid hin.out.len
    have bl:=Blk.lt hos
    by_cases hlm:j<b.length
    ·obtain ⟨b2,o2,rfl,g2⟩:=(hB.ext hbe) j hlm
     have g3:=hos.cell (i+j) (by rw [hln.out];omega)
     have f3:=Blk.free hos (i+j)
     have y:nthd b j<4294967296:=hb.nth j
     have o:nthd os (i+j)<4294967296:=hin.out.dig.nth (i+j)
     have hp:=wmul_digit hx y
     have hst:=hid (hin.out.step ha hb hlt hlm)
     have hset:=hid (fun wq:World=>fun h:UBlk wq w.heap.size os=>h.set (i+j) ((nthd os (i+j)+nthd a i*nthd b j+cn) % 4294967296))
     have HOS:=hid hos;have HB:=hid hbe
     have hpi:((nthd a i*nthd b j:Nat):Int)=(nthd a i:Int)*nthd b j:=by push_cast;rfl
     have hp2:0≤(nthd a i:Int)*nthd b j∧(nthd a i:Int)*nthd b j≤18446744065119617025:=by omega
     have E1:Hid ((((nthd os (i+j)+nthd a i*nthd b j+cn) % 4294967296:Nat):Int)=((cn:Int)+((nthd a i:Int)*nthd b j+nthd os (i+j))) % 4294967296):=hid (by omega)
     have E2:Hid ((((nthd os (i+j)+nthd a i*nthd b j+cn) / 4294967296:Nat):Int)=((cn:Int)+((nthd a i:Int)*nthd b j+nthd os (i+j))) / 4294967296):=hid (by omega)
     have h1:(j:Int)<b.length:=by omega
     have h2:(i:Int)+j<(a.length:Int)+b.length:=by omega
     clear hpi hp hos hin hbe
     go_wp2_with fail
     go_roundw
     case rel=>exact ⟨j+1,_,_,by omega,by go_num,by rw [←E2.out],by rw [←E1.out];exact hset.out _ HOS.out,hst.out,HB.out.setCell (Nat.le_refl _) _⟩
     case measure=>simp [intOf];omega
    ·obtain rfl:j=b.length:=by omega
     have g3:=hos.cell (i+b.length) (by rw [hln.out];omega)
     have f3:=Blk.free hos (i+b.length)
     have h2:(i:Int)+b.length<(a.length:Int)+b.length:=by omega
     have hst:=hid (hin.out.done hlt)
     have hset:=hid (hos.set (i+b.length) cn)
     have HB:=hid hbe
     have hcm:(cn:Int) % 4294967296=cn:=by omega
     clear hos hin hbe
     go_wp2_with fail
     go_roundw
     case rel=>exact ⟨i+1,_,by omega,by go_num,hset.out,hst.out,HB.out.setCell (Nat.le_refl _) _⟩
     case measure=>simp [intOf];omega
  ·obtain rfl:i=a.length:=by omega
   have htr:=trim_calls (some ⟨w.heap.size,0,none⟩) (a.length+b.length) os wr (by rw [hrow.len];omega) (by unfold maxLen;omega) hos.wds
   rw [hrow.len] at htr
   have hd:=hrow.done
   rw [HV.out,HM.out] at hd
   have HD:=hid hd;have HT:=hid htr;have HB:=hid hbe;have HW:=hid hos.wds
   have HL:=hid hrow.len
   clear hd htr hbe hos hrow hA hB ha hb
   go_wp2_with fail
   refine HT.out.mono ?_;rintro e w3 ⟨k,rfl,hk,ht,rfl⟩
   have hfin:=HW.out.take k
   rw [ht,HD.out] at hfin
   have hkl:k=(digits (n*m)).length:=by
    rw [←HD.out,←ht,List.length_take,HL.out];have:=HL.out;omega
   have HK:=hid hkl;have HF:=hid hfin
   clear hkl hfin ht HT
   go_wp2
   go_ret
   exact ⟨_,rfl,⟨_,_,by rw [←HK.out];rfl,by rw [←HK.out];omega,by omega,HF.out⟩,HB.out⟩
set_option maxRecDepth 100000 in
set_option maxHeartbeats 2000000 in
theorem times_snd (v u:Value) (n m:Nat) (w:World) (hsmall:n<18446744073709551616) (hbig:18446744073709551616≤m) (hn:(digits n).length≤100000000) (hm:(digits m).length≤100000000) (hv:WSl w v n) (hu:WSl w u m) :
 Calls Tryz.prog 199 #[v,u] w fun e w'=>∃ v,e=.returned v∧WSl w' v (n*m)∧Below w.heap.size w w':=by
 have hv0:=hv
 have hu0:=hu
 obtain ⟨A,ca,rfl,hca,hcm,hA⟩:=hv0
 obtain ⟨B,cb,rfl,hcb,hcm2,hB⟩:=hu0
 have ha:=digits_dig n
 have hb:=digits_dig m
 have hvn:=val_digits n
 have hvm:=val_digits m
 have hs:=small_yes n _ w hsmall hv
 have ht:=fun k h=>small_no m (.slice B (digits m).length cb) (w.drewN k) hbig (by unfold maxLen;omega) h
 have HS:=hid hs;have HT:=hid ht
 clear hs ht
 go_enter Tryz.func199,Tryz.ntmps199
 go_wp2_with fail
 refine HS.out.mono ?_;rintro e w1 ⟨rfl,k1,e1⟩
 rw [e1]
 clear e1 w1 HS
 go_wp2_with fail
 refine (HT.out k1 (hu.ext (drewN_below w k1))).mono ?_;rintro e w1 ⟨rfl,e1⟩
 rw [e1]
 clear e1 w1 HT hbig hsmall
 generalize digits n=a at *
 generalize digits m=b at *
 have HV:=hid hvn;have HM:=hid hvm
 clear hvn hvm hv hu hca hcb hcm hcm2
 have hmk:=fun w=>run_makeU32 w (a.length+b.length) (by omega)
 have ec:((a.length+b.length:Nat):Int)=(a.length:Int)+b.length:=by push_cast;rfl
 rw [ec] at hmk
 clear ec
 go_wp2_with fail
 clear hmk
 go_loopw [12,13,14,15,16,55] (fun _ _ _ _ _ i wr=>∃ (n:Nat) (os:List Nat),n≤a.length∧i=.int .i64 n∧UBlk wr w.heap.size os∧WRow a b os n∧Below w.heap.size w wr) (fun _ _ _ _ _ i _=>a.length-(intOf i).toNat)
 case atStart=>exact ⟨0,_,Nat.zero_le _,rfl,UBlk.made _ _ _ rfl,WRow.start a b,(drewN_below w k1).alloc (Nat.le_refl _) _⟩
 case round =>
  obtain ⟨i,os,hi,rfl,hos,hrow,hbe⟩:=hrel
  by_cases hlt:i<a.length
  ·have hin:=hid hrow.enter
   obtain ⟨b1,o1,rfl,g1⟩:=(hA.ext hbe) i hlt
   have hn1:(i:Int)<a.length:=by omega
   have hx:=ha.nth i
   clear hrow
   go_wp2_with fail
   go_loopw [14,15,16,62] (fun c _ _ k wr=>∃ (j cn:Nat) (os:List Nat),j≤b.length∧k=.int .i64 j∧c=.int .u64 cn∧UBlk wr w.heap.size os∧Hid (WIn a b os i j cn)∧Below w.heap.size w wr) (fun _ _ _ k _=>b.length-(intOf k).toNat)
   case atStart=>exact ⟨0,0,os,Nat.zero_le _,rfl,rfl,hos,hin,hbe⟩
   case round =>
    clear hos hin hbe
    obtain ⟨j,cn,os,hj,rfl,rfl,hos,hin,hbe⟩:=hrel
    have hcar:=hin.out.car
    have hln:Hid (os.length=a.length+b.length):=hid hin.out.len
    have bl:=Blk.lt hos
    by_cases hlm:j<b.length
    ·obtain ⟨b2,o2,rfl,g2⟩:=(hB.ext hbe) j hlm
     have g3:=hos.cell (i+j) (by rw [hln.out];omega)
     have f3:=Blk.free hos (i+j)
     have y:nthd b j<4294967296:=hb.nth j
     have o:nthd os (i+j)<4294967296:=hin.out.dig.nth (i+j)
     have hp:=wmul_digit hx y
     have hst:=hid (hin.out.step ha hb hlt hlm)
     have hset:=hid (fun wq:World=>fun h:UBlk wq w.heap.size os=>h.set (i+j) ((nthd os (i+j)+nthd a i*nthd b j+cn) % 4294967296))
     have HOS:=hid hos;have HB:=hid hbe
     have hpi:((nthd a i*nthd b j:Nat):Int)=(nthd a i:Int)*nthd b j:=by push_cast;rfl
     have hp2:0≤(nthd a i:Int)*nthd b j∧(nthd a i:Int)*nthd b j≤18446744065119617025:=by omega
     have E1:Hid ((((nthd os (i+j)+nthd a i*nthd b j+cn) % 4294967296:Nat):Int)=((cn:Int)+((nthd a i:Int)*nthd b j+nthd os (i+j))) % 4294967296):=hid (by omega)
     have E2:Hid ((((nthd os (i+j)+nthd a i*nthd b j+cn) / 4294967296:Nat):Int)=((cn:Int)+((nthd a i:Int)*nthd b j+nthd os (i+j))) / 4294967296):=hid (by omega)
     have h1:(j:Int)<b.length:=by omega
     have h2:(i:Int)+j<(a.length:Int)+b.length:=by omega
     clear hpi hp hos hin hbe
     go_wp2_with fail
     go_roundw
     case rel=>exact ⟨j+1,_,_,by omega,by go_num,by rw [←E2.out],by rw [←E1.out];exact hset.out _ HOS.out,hst.out,HB.out.setCell (Nat.le_refl _) _⟩
     case measure=>simp [intOf];omega
    ·obtain rfl:j=b.length:=by omega
     have g3:=hos.cell (i+b.length) (by rw [hln.out];omega)
     have f3:=Blk.free hos (i+b.length)
     have h2:(i:Int)+b.length<(a.length:Int)+b.length:=by omega
     have hst:=hid (hin.out.done hlt)
     have hset:=hid (hos.set (i+b.length) cn)
     have HB:=hid hbe
     have hcm:(cn:Int) % 4294967296=cn:=by omega
     clear hos hin hbe
     go_wp2_with fail
     go_roundw
     case rel=>exact ⟨i+1,_,by omega,by go_num,hset.out,hst.out,HB.out.setCell (Nat.le_refl _) _⟩
     case measure=>simp [intOf];omega
  ·obtain rfl:i=a.length:=by omega
   have htr:=trim_calls (some ⟨w.heap.size,0,none⟩) (a.length+b.length) os wr (by rw [hrow.len];omega) (by unfold maxLen;omega) hos.wds
   rw [hrow.len] at htr
   have hd:=hrow.done
   rw [HV.out,HM.out] at hd
   have HD:=hid hd;have HT:=hid htr;have HB:=hid hbe;have HW:=hid hos.wds
   have HL:=hid hrow.len
   clear hd htr hbe hos hrow hA hB ha hb
   go_wp2_with fail
   refine HT.out.mono ?_;rintro e w3 ⟨k,rfl,hk,ht,rfl⟩
   have hfin:=HW.out.take k
   rw [ht,HD.out] at hfin
   have hkl:k=(digits (n*m)).length:=by
    rw [←HD.out,←ht,List.length_take,HL.out];have:=HL.out;omega
   have HK:=hid hkl;have HF:=hid hfin
   clear hkl hfin ht HT
   go_wp2
   go_ret
   exact ⟨_,rfl,⟨_,_,by rw [←HK.out];rfl,by rw [←HK.out];omega,by omega,HF.out⟩,HB.out⟩
theorem times_calls (v u:Value) (n m:Nat) (w:World) (hn:(digits n).length≤100000000) (hm:(digits m).length≤100000000) (hv:WSl w v n) (hu:WSl w u m) :
 Calls Tryz.prog 199 #[v,u] w fun e w'=>∃ v,e=.returned v∧WSl w' v (n*m)∧Below w.heap.size w w':=by
 rcases Nat.lt_or_ge n 18446744073709551616 with h|h
 ·rcases Nat.lt_or_ge m 18446744073709551616 with h2|h2
  ·exact times_small v u n m w h h2 hv hu
  ·exact times_snd v u n m w h h2 hn hm hv hu
 ·exact times_big v u n m w h hn hm hv hu
end
section
open Go.RowKit
theorem neg_sign (z:Int):(!decide (z<0) && decide (0<z.natAbs))=decide (-z<0):=by
 by_cases h:z<0
 ·rw [decide_eq_true h,decide_eq_false (show ¬ -z<0 by omega)];rfl
 ·rw [decide_eq_false h]
  by_cases h0:z=0
  ·subst h0;rfl
  ·rw [decide_eq_true (show -z<0 by omega),decide_eq_true (show 0<z.natAbs by omega)];rfl
set_option maxRecDepth 100000 in
set_option maxHeartbeats 1000000 in
theorem neg_calls (p q:Nat) (z:Int) (w:World) (hp:IntBlk w p) (hz:BigP w q z) :
 Calls Tryz.prog 164 #[.pointer (some ⟨p,0,none⟩),.pointer (some ⟨q,0,none⟩)] w fun e w'=>e=.returned (.pointer (some ⟨p,0,none⟩))∧BigP w' p (-z)∧But p w w':=by
 obtain ⟨-,v,hb0,hb1,hv⟩:=id hz
 have c0:w.cell? ⟨q,0,none⟩=some (.bool (decide (z<0))):=hb0
 have c1:w.cell? ⟨q,1,none⟩=some v:=hb1
 have hs:=neg_sign z
 have HS:=hid hs
 clear hs hb0 hb1 hz
 go_enter Tryz.func164,Tryz.ntmps164
 go_wp2_with fail
 go_still_tail 10,(by kernel_rfl)
 change wpList _ _ _ _ _ w.drew
 go_wp2_with fail
 refine (set_z p _ v z.natAbs (-z) w.drew (hp.ext (drewN_below w 1)) (hv.ext (drewN_below w 1)) (by omega) HS.out).mono ?_;rintro e w3 ⟨rfl,hz3,hb3⟩
 go_wp2
 go_ret
 exact ⟨rfl,hz3,((But.refl p w).ext (drewN_below w 1)).trans hb3⟩
theorem add_same (x y:Int) (h:(decide (x<0) == decide (y<0))=true):(x+y).natAbs=x.natAbs+y.natAbs∧(decide (x<0) && decide (0<x.natAbs+y.natAbs))=decide (x+y<0):=by
 by_cases hx:x<0<;>by_cases hy:y<0<;>simp [hx,hy] at h ⊢<;>omega
theorem add_diff (x y:Int) (h:(decide (x<0) == decide (y<0))=false) (hle:y.natAbs≤x.natAbs):(x+y).natAbs=x.natAbs-y.natAbs∧(decide (x<0) && decide (0<x.natAbs-y.natAbs))=decide (x+y<0):=by
 by_cases hx:x<0<;>by_cases hy:y<0<;>simp [hx,hy] at h ⊢<;>omega
theorem add_diff' (x y:Int) (h:(decide (x<0) == decide (y<0))=false) (hle:x.natAbs<y.natAbs):(x+y).natAbs=y.natAbs-x.natAbs∧(decide (y<0) && decide (0<y.natAbs-x.natAbs))=decide (x+y<0):=by
 by_cases hx:x<0<;>by_cases hy:y<0<;>simp [hx,hy] at h ⊢<;>omega
def Wide (z:Int):Prop:=(digits z.natAbs).length≤100000000
theorem mul_sign (x y:Int):(x*y).natAbs=x.natAbs*y.natAbs∧((!(decide (x<0) == decide (y<0))) && decide (0<x.natAbs*y.natAbs))=decide (x*y<0):=by
 refine ⟨Int.natAbs_mul x y,?_⟩
 rw [←Int.natAbs_mul]
 by_cases hx:x<0<;>by_cases hy:y<0
 ·have:=Int.mul_pos_of_neg_of_neg hx hy
  simp [hx,hy];omega
 ·rcases Int.lt_or_le 0 y with h|h
  ·have:=Int.mul_neg_of_neg_of_pos hx h
   simp [hx,hy,this];omega
  ·have:y=0:=by omega
   subst this;simp
 ·rcases Int.lt_or_le 0 x with h|h
  ·have:=Int.mul_neg_of_pos_of_neg h hy
   simp [hx,hy,this];omega
  ·have:x=0:=by omega
   subst this;simp
 ·have:=Int.mul_nonneg (show 0≤x by omega) (show 0≤y by omega)
  simp [hx,hy];omega
end
end Go.Proofs.YtkljafmdbajfeaaGreatDoor
