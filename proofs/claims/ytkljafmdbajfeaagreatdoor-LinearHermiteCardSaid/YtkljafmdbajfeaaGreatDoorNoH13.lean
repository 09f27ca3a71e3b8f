/- math/bits: the leading zeros of a word. -/
import Derived.Lib.BitFns
import Derived.Lib.ItoaNum
import Derived.Shelf.Small.Bits
import Derived.Outline
import Derived.Test.YtkljafmdbajfeaaGreatDoorNoH12
namespace Go.Proofs.YtkljafmdbajfeaaGreatDoor
set_option linter.unusedVariables false
set_option linter.unusedSimpArgs false
open Go.Lib (hid)
section
open Go.RowKit Go.Shelf
def lz_ren:Go.Shelf.Ren:=⟨fun|133=>234|128=>240|n=>n,fun|51=>240|3=>3|4=>4|46=>241|5=>5|9=>9|n=>n,fun|n=>n⟩
theorem lz_lays:Go.Proofs.Lays.n133 Tryz.prog lz_ren:={
 mixed:=by kernel_rfl
 f128:=Tryz.func240.trans (congrArg some (by kernel_rfl))
 f133:=Tryz.func234.trans (congrArg some (by kernel_rfl))
 t3:=Tryz.underlying3
 a3:=Tryz.isAgg3
 z3:=Tryz.sizeOf3
 v3:=Tryz.zeroValue3
 t4:=Tryz.underlying4
 a4:=Tryz.isAgg4
 z4:=Tryz.sizeOf4
 v4:=Tryz.zeroValue4
 t5:=Tryz.underlying5
 a5:=Tryz.isAgg5
 z5:=Tryz.sizeOf5
 v5:=Tryz.zeroValue5
 t9:=Tryz.underlying9
 a9:=Tryz.isAgg9
 z9:=Tryz.sizeOf9
 v9:=Tryz.zeroValue9
 t46:=Tryz.underlying241
 a46:=Tryz.isAgg241
 z46:=Tryz.sizeOf241
 v46:=Tryz.zeroValue241
 t51:=Tryz.underlying240
 a51:=Tryz.isAgg240
 z51:=Tryz.sizeOf240
 v51:=Tryz.zeroValue240 }
theorem lz_bound (x s:Nat) (h0:0<x) (hs:s=32-Lib.bitLen x) (hx:x<4294967296):s<32∧2147483648≤x*2 ^ s∧x*2 ^ s<4294967296:=by
 obtain ⟨h1,h2,h3⟩:=Lib.bitLenAux_bounds 64 x (by omega) (by omega)
 have h4:=Lib.bitLen_le x 32 (by omega) (by omega)
 unfold Lib.bitLen at h4 hs
 generalize Lib.bitLenAux 64 x=l at *
 subst hs
 refine ⟨by omega,?_,?_⟩
 ·have:2 ^ (l-1)*2 ^ (32-l)≤x*2 ^ (32-l):=Nat.mul_le_mul_right _ h2
  rw [←Nat.pow_add,show l-1+(32-l)=31 by omega] at this
  exact this
 ·have:x*2 ^ (32-l)<2 ^ l*2 ^ (32-l):=Nat.mul_lt_mul_of_pos_right h3 (Nat.two_pow_pos _)
  rw [←Nat.pow_add,show l+(32-l)=32 by omega] at this
  exact this
theorem lz32_calls (x:Nat) (w:World) (h0:0<x) (hx:x<4294967296) :
 Calls Tryz.prog 234 #[.int .u32 x] w fun e w'=>∃ s:Nat,e=.returned (.int .i64 s)∧(s<32∧2147483648≤x*2 ^ s∧x*2 ^ s<4294967296)∧w'=w:=by
 have l:=Lib.bitLen_le x 32 (by omega) (by omega)
 have hb:=lz_bound x _ h0 rfl hx
 refine (Any.bits_LeadingZeros32 lz_lays (x:Int) w (by omega) (by omega)).mono ?_
 rintro e w' ⟨rfl,rfl⟩
 exact ⟨32-Lib.bitLen x,by rw [show (x:Int).toNat=x by omega];congr 2;omega,hb,rfl⟩
end
section
theorem val_top2 {l:List Nat} {n:Nat} (h:l.length=n+2):val l=(nthd l (n+1)*4294967296+nthd l n)*4294967296 ^ n+val (l.take n):=by
 have h1:=val_take_succ l (n+1)
 have h2:=val_take_succ l n
 have h3:l.take (n+1+1)=l:=List.take_of_length_le (by omega)
 rw [h3,h2,Nat.pow_succ] at h1
 rw [h1]
 generalize 4294967296 ^ n=P
 generalize nthd l (n+1)=x
 generalize nthd l n=y
 grind
theorem top3_ring (v t x y z B P:Nat) (h:v=(x*B+y)*(P*B)+(t+P*z)):v=((x*B+y)*B+z)*P+t:=by
 rw [h];grind
theorem val_top3 {l:List Nat} {n:Nat} (h:l.length=n+3):val l=((nthd l (n+2)*4294967296+nthd l (n+1))*4294967296+nthd l n)*4294967296 ^ n+val (l.take n):=by
 have h1:=val_top2 (n:=n+1) h
 have h2:=val_take_succ l n
 have h3:4294967296 ^ (n+1)=4294967296 ^ n*4294967296:=Nat.pow_succ _ _
 rw [h3,h2] at h1
 exact top3_ring _ _ _ _ _ _ _ h1
theorem round_trial {rest d:List Nat} {j n:Nat} (hn:d.length=n+2) (hr:Dig rest) (hd:Dig d) (hj:j+(n+2)<rest.length) (h1:0<nthd d (n+1)) (hlt:val ((rest.drop j).take (n+3))<val d*4294967296) :
 Trial 4294967296 (4294967296 ^ n) (nthd d (n+1)) (nthd d n) (val (d.take n)) (nthd rest (j+n+2)) (nthd rest (j+n+1)) (nthd rest (j+n)) (val (((rest.drop j).take (n+3)).take n)) (val d) (val ((rest.drop j).take (n+3))):=by
 have hl:((rest.drop j).take (n+3)).length=n+3:=by simp;omega
 have e:=val_top3 hl
 rw [nthd_win (by omega),nthd_win (by omega),nthd_win (by omega)] at e
 have v1:=val_lt (hd.take n)
 have v2:=val_lt (((hr.drop j).take (n+3)).take n)
 rw [List.length_take,Nat.min_eq_left (by omega)] at v1 v2
 exact ⟨by omega,Nat.pow_pos (by omega),val_top2 hn,e,h1,hd.nth _,v1,hr.nth _,hr.nth _,v2,hlt⟩
theorem round_yes {U D q B vn s:Nat} (hD:0<D) (he:q*D+vn=U+B*s) (hs:s≤1) (hv:vn<B) (hU:U<B) (g1:U / D≤q) (g2:q≤U / D+1) :
 (s=0→q=U / D∧vn+q*D=U)∧(s≠0→q=U / D+1∧∀ vm c,vm<B→c≤1→vm+B*c=vn+D→vm+(q-1)*D=U):=by
 have h1:=Nat.div_add_mod U D
 have h2:=Nat.mod_lt U hD
 refine ⟨fun h0=>?_,fun h0=>?_⟩
 ·subst h0
  rcases Nat.lt_or_ge (U / D) q with h3|h3
  ·have h4:=Nat.mul_le_mul_right D h3
   rw [Nat.succ_mul,Nat.mul_comm] at h4;omega
  ·have:q=U / D:=by omega
   exact ⟨this,by omega⟩
 ·have:s=1:=by omega
  subst this
  have hq:q=U / D+1:=by
   rcases Nat.lt_or_ge (U / D) q with h3|h3
   ·omega
   ·have:q=U / D:=by omega
    subst this
    rw [Nat.mul_comm] at he;omega
  refine ⟨hq,fun vm c hm hc hmc=>?_⟩
  subst hq
  rw [Nat.add_sub_cancel]
  rw [Nat.add_mul,Nat.one_mul] at he
  have h5:U / D*D=D*(U / D):=Nat.mul_comm _ _
  have hc1:c=1:=by
   rcases Nat.eq_zero_or_pos c with h6|h6
   ·subst h6;omega
   ·omega
  subst hc1;omega
structure BackAt (rest bk:List Nat) (s i n:Nat):Prop where
 len:bk.length=n
 dig:Dig bk
 value:2 ^ s*val (bk.take i)+nthd rest 0 % 2 ^ s=val (rest.take i)+4294967296 ^ i*(nthd rest i % 2 ^ s)
theorem BackAt.start (rest:List Nat) (s n:Nat):BackAt rest (List.replicate n 0) s 0 n:=⟨by simp,Dig.zeros n,by simp [val]⟩
theorem BackAt.step {rest bk:List Nat} {s i n:Nat} (h:BackAt rest bk s i n) (hr:Dig rest) (hs:s<32) (hi:i<n) :
 BackAt rest (bk.set i ((nthd rest i+4294967296*nthd rest (i+1)) / 2 ^ s % 4294967296)) s (i+1) n:=by
 refine ⟨by rw [List.length_set];exact h.len,wdig_set h.dig i (Nat.mod_lt _ (by omega)),?_⟩
 rw [val_set_succ (by rw [h.len];exact hi),val_take_succ rest i,Nat.pow_succ]
 exact back_step hs (hr.nth i) h.value
theorem BackAt.done {rest bk:List Nat} {s n A M:Nat} (h:BackAt rest bk s n n) (hz:nthd rest n=0) (hv:val (rest.take n)=A*2 ^ s % (M*2 ^ s)) (hm:0<M):val bk=A % M:=by
 have hv2:=h.value
 rw [←h.len,List.take_length,h.len,hz,Nat.zero_mod,Nat.mul_zero,Nat.add_zero,hv,Nat.mul_mod_mul_right] at hv2
 have hp:=Nat.two_pow_pos s
 have h1:nthd rest 0 % 2 ^ s<2 ^ s:=Nat.mod_lt _ hp
 have h2:(2 ^ s*val bk+nthd rest 0 % 2 ^ s) % 2 ^ s=0:=by rw [hv2,Nat.mul_mod_left]
 rw [Nat.mul_add_mod,Nat.mod_mod] at h2
 rw [h2,Nat.add_zero,Nat.mul_comm] at hv2
 exact Nat.eq_of_mul_eq_mul_right hp hv2
theorem ShAt.divisor {b os:List Nat} {s:Nat} (hs:s<32) (h:ShAt b os s b.length) (hb:Dig b) (hl:0<b.length) (ht:nthd b (b.length-1)*2 ^ s<4294967296):val (os.take b.length)=val b*2 ^ s∧(2147483648≤nthd b (b.length-1)*2 ^ s→0<nthd (os.take b.length) (b.length-1)):=by
 have hv:=h.done
 have hlen:=h.len
 have e1:val os=val (os.take b.length)+4294967296 ^ b.length*nthd os b.length:=by
  have:=val_take_succ os b.length
  rwa [←hlen,List.take_length] at this
 have e2:val b=val (b.take (b.length-1))+4294967296 ^ (b.length-1)*nthd b (b.length-1):=by
  have:=val_take_succ b (b.length-1)
  rwa [Nat.sub_add_cancel hl,List.take_length] at this
 have v1:=val_lt (hb.take (b.length-1))
 rw [List.length_take,Nat.min_eq_left (by omega)] at v1
 have hpw:4294967296 ^ b.length=4294967296 ^ (b.length-1)*4294967296:=by rw [←Nat.pow_succ,Nat.succ_eq_add_one,Nat.sub_add_cancel hl]
 have hlt:val b*2 ^ s<4294967296 ^ b.length:=by
  -- all digits below the highest are less than one of it; the highest times 2^s leaves room for 2^s
  have hs1:(nthd b (b.length-1)+1)*2 ^ s≤4294967296:=by
   have hB:=pow_split hs
   have h7:nthd b (b.length-1)<2 ^ (32-s):=by
    refine Nat.lt_of_mul_lt_mul_right (a:=2 ^ s) ?_
    rw [Nat.mul_comm (2 ^ (32-s)),←hB];exact ht
   have:=Nat.mul_le_mul_right (2 ^ s) h7
   rw [Nat.mul_comm (2 ^ (32-s)),←hB] at this
   exact this
  have h8:val b<4294967296 ^ (b.length-1)*(nthd b (b.length-1)+1):=by rw [e2,Nat.mul_add];omega
  have h9:val b*2 ^ s<4294967296 ^ (b.length-1)*(nthd b (b.length-1)+1)*2 ^ s:=Nat.mul_lt_mul_of_pos_right h8 (Nat.two_pow_pos s)
  rw [Nat.mul_assoc] at h9
  have:=Nat.mul_le_mul_left (4294967296 ^ (b.length-1)) hs1
  rw [hpw];omega
 have hz:nthd os b.length=0:=by
  rcases Nat.eq_zero_or_pos (nthd os b.length) with h5|h5
  ·exact h5
  ·have:=Nat.mul_le_mul_left (4294967296 ^ b.length) h5
   omega
 rw [hz,Nat.mul_zero,Nat.add_zero] at e1
 refine ⟨by omega,fun hge=>?_⟩
 rcases Nat.eq_zero_or_pos (nthd (os.take b.length) (b.length-1)) with h5|h5
 ·exfalso
  have e3:=val_take_succ (os.take b.length) (b.length-1)
  rw [Nat.sub_add_cancel hl,h5,Nat.mul_zero,Nat.add_zero] at e3
  rw [List.take_take,List.take_take,Nat.min_self,Nat.min_eq_left (by omega)] at e3
  have v2:=val_lt (h.dig.take (b.length-1))
  rw [List.length_take,Nat.min_eq_left (by omega)] at v2
  have h6:4294967296 ^ (b.length-1)*nthd b (b.length-1)*2 ^ s≤val b*2 ^ s:=Nat.mul_le_mul_right _ (by omega)
  rw [Nat.mul_assoc] at h6
  have h7:=Nat.mul_le_mul_left (4294967296 ^ (b.length-1)) (show 1≤nthd b (b.length-1)*2 ^ s by omega)
  omega
 ·exact h5
end
section
open Go.RowKit
theorem UBlk.ext {w w':World} {b:Nat} {ds:List Nat} (h:UBlk w b ds) (hb:Below w.heap.size w w'):UBlk w' b ds:=Blk.ext h hb
theorem UBlk.but {w w':World} {b p:Nat} {ds:List Nat} (h:UBlk w b ds) (hb:But p w w') (hne:b≠p):UBlk w' b ds:=Blk.but h hb hne
structure LW (w wr:World) (p1 p2 p3:Nat) (rest d out:List Nat):Prop where
 r:UBlk wr p1 rest
 d:Wds wr (some ⟨p2,0,none⟩) d
 o:UBlk wr p3 out
 b:Below w.heap.size w wr
theorem LW.drewN {w wr:World} {p1 p2 p3:Nat} {rest d out:List Nat} (h:LW w wr p1 p2 p3 rest d out) (n:Nat):LW w (wr.drewN n) p1 p2 p3 rest d out :=
 ⟨h.r,h.d.ext (drewN_below _ _),h.o,h.b.trans ((drewN_below wr n).mono h.b.size)⟩
theorem or_top2 (H L:Nat) (hH:H<4294967296) (hL:L<4294967296):bits .or .u64 ((H:Int)*4294967296) (L:Int)=((H*4294967296+L:Nat):Int):=by
 rw [or_words H L hH hL];congr 1;omega
theorem long_start {a b r1:List Nat} {s:Nat} (ha:Dig a) (hb:Dig b) (hs:s<32) (hl:b.length≤a.length) (hb1:1≤b.length) (htop:0<nthd b (b.length-1)) (h:ShAt a r1 s a.length) :
 LongAt (val a*2 ^ s) (val b*2 ^ s) b.length r1 (List.replicate (a.length-b.length+1) 0) (a.length-b.length+1):=by
 refine ⟨h.dig,Dig.zeros _,by rw [val_zeros,Nat.zero_mul];exact h.done,?_,fun i hi=>nthd_out (by rw [h.len];omega),fun i hi=>nthd_zeros _ _⟩
 have h1:val r1=val (r1.take (a.length-b.length+1))+4294967296 ^ (a.length-b.length+1)*val (r1.drop (a.length-b.length+1)):=by
  have:=val_append (r1.take (a.length-b.length+1)) (r1.drop (a.length-b.length+1))
  rwa [List.take_append_drop,List.length_take,Nat.min_eq_left (by rw [h.len];omega)] at this
 rw [List.take_of_length_le (by rw [List.length_drop,h.len];omega)]
 have h2:=val_lt ha
 have h3:=h.done
 have h4:4294967296 ^ (b.length-1)≤val b:=by
  have e2:=val_take_succ b (b.length-1)
  rw [Nat.sub_add_cancel hb1,List.take_length] at e2
  have:=Nat.mul_le_mul_left (4294967296 ^ (b.length-1)) htop
  omega
 have h5:4294967296 ^ a.length=4294967296 ^ (a.length-b.length+1)*4294967296 ^ (b.length-1):=by rw [←Nat.pow_add];congr 1;omega
 have hp:=Nat.two_pow_pos s
 have hP:0<4294967296 ^ (a.length-b.length+1):=Nat.pow_pos (by omega)
 refine Nat.lt_of_mul_lt_mul_left (a:=4294967296 ^ (a.length-b.length+1)) ?_
 have h6:val a*2 ^ s<4294967296 ^ (a.length-b.length+1)*4294967296 ^ (b.length-1)*2 ^ s:=by rw [←h5];exact Nat.mul_lt_mul_of_pos_right h2 hp
 have h7:=Nat.mul_le_mul_left (4294967296 ^ (a.length-b.length+1)) (Nat.mul_le_mul_right (2 ^ s) h4)
 rw [Nat.mul_assoc] at h6
 omega
theorem u64_pred {q:Nat} (h:0<q):Value.int .u64 ((q:Int)-1)=.int .u64 ((q-1:Nat):Int):=by rw [Int.natCast_sub h];rfl
theorem putD_putD {rest nw nm:List Nat} {j:Nat} (h:j+nw.length≤rest.length) (hl:nm.length=nw.length):putD (putD rest j nw) j nm=putD rest j nm:=by
 have h1:(putD rest j nw).take j=rest.take j:=by
  have:(rest.take j).length=j:=by simp;omega
  unfold putD;rw [List.append_assoc,List.take_append_of_le_length (by omega),List.take_of_length_le (by omega)]
 have h2:(putD rest j nw).drop (j+nm.length)=rest.drop (j+nm.length):=by
  rw [←List.drop_drop,putD_win h,List.drop_append,hl,Nat.sub_self,List.drop_of_length_le (by omega),List.drop_zero,List.nil_append]
 unfold putD at *
 rw [h1,h2]
theorem take_win (R j L l cr:Nat) (rest:List Nat) (A:Option Addr) (c:Nat) (d:List Nat) (q:Nat) (w:World) (hl:l=L+1) (hdL:d.length=L) (hos:UBlk w R rest) (hjl:j+(L+1)≤rest.length) (hm:rest.length≤1000000000)
 (ho:Dig rest) (hd:Dig d) (hA:Wds w A d) (hne:∀ b o,A=some ⟨b,o,none⟩→b≠R) (hq:q<4294967296) :
 Calls Tryz.prog 236 #[.slice (some ⟨R,j,none⟩) l cr,.slice A L c,.int .u64 q] w fun e w'=>∃ nw s,e=.returned (.bool (decide (s≠0)))∧UBlk w' R (putD rest j nw)∧But R w w'∧Hid (nw.length=L+1∧Dig nw∧s≤1∧q*val d+val nw=val ((rest.drop j).take (L+1))+4294967296 ^ (L+1)*s):=by
 subst hl hdL
 refine (take_calls R j (d.length+1) cr rest A c d q w hos hjl hm (by omega) ho hd hA hne hq).mono ?_
 rintro e w' ⟨nw,cc,s,he,hu,ht,hz,hb⟩
 have hul:((rest.drop j).take (d.length+1)).length=d.length+1:=by simp;omega
 have hv:TakeAt ((rest.drop j).take (d.length+1)) d q nw ((rest.drop j).take (d.length+1)).length cc s:=by rw [hul];exact ht
 have h2:=hv.done (by omega) (hz (by omega))
 rw [hul] at h2
 exact ⟨nw,s,he,hu,hb,hid ⟨by rw [ht.len,hul],ht.dig,ht.bor,h2⟩⟩
theorem give_win (R j L l cr:Nat) (rest nw:List Nat) (A:Option Addr) (c:Nat) (d:List Nat) (w:World) (hl:l=L+1) (hdL:d.length=L) (hnw:nw.length=L+1) (hos:UBlk w R (putD rest j nw)) (hjl:j+(L+1)≤rest.length) (hm:rest.length≤1000000000)
 (ho:Dig rest) (hn:Dig nw) (hd:Dig d) (hA:Wds w A d) (hne:∀ b o,A=some ⟨b,o,none⟩→b≠R) :
 Calls Tryz.prog 237 #[.slice (some ⟨R,j,none⟩) l cr,.slice A L c] w fun e w'=>∃ nm s,e=.returned (.tuple #[])∧UBlk w' R (putD rest j nm)∧But R w w'∧Hid (nm.length=L+1∧Dig nm∧s≤1∧val nm+4294967296 ^ (L+1)*s=val nw+val d):=by
 subst hl hdL
 refine (give_calls R j (d.length+1) cr (putD rest j nw) A c d w hos (by rw [putD_len (by omega)];exact hjl) (by rw [putD_len (by omega)];exact hm) (by omega) (putD_dig ho hn) hd hA hne).mono ?_
 rintro e w' ⟨nm,cc,he,hu,ht,hb⟩
 have hwin:((putD rest j nw).drop j).take (d.length+1)=nw:=by rw [putD_win (by omega),List.take_append_of_le_length (by omega),List.take_of_length_le (by omega)]
 rw [hwin] at ht
 have hlen:nm.length=nw.length:=ht.len
 rw [putD_putD (by omega) hlen] at hu
 have hv:GiveAt nw d nm nw.length cc:=by rw [hnw];exact ht
 have h2:=hv.done (by omega)
 rw [hnw] at h2
 exact ⟨nm,cc,he,hu,hb,hid ⟨by omega,ht.dig,ht.car,h2⟩⟩
set_option maxRecDepth 100000 in
set_option maxHeartbeats 2000000 in
theorem long_calls (A B:Option Addr) (ca cb:Nat) (a b:List Nat) (w:World) (hl:b.length≤a.length) (hb2:2≤b.length) (htop:0<nthd b (b.length-1)) (ha:Dig a) (hb:Dig b) (hm:a.length≤100000000) (hA:Wds w A a) (hB:Wds w B b) :
 Calls Tryz.prog 228 #[.slice A a.length ca,.slice B b.length cb] w fun e w'=>∃ v u,e=.returned (.tuple #[v,u])∧WSl w' v (val a / val b)∧WSl w' u (val a % val b)∧Below w.heap.size w w':=by
 obtain ⟨n,hn⟩:∃ n,b.length=n+2:=⟨b.length-2,by omega⟩
 obtain ⟨bB,oB,rfl,gB⟩:=hB (b.length-1) (by omega)
 have ec:((b.length-1:Nat):Int)=(b.length:Int)-1:=by omega
 have hi1:(0:Int)≤(b.length:Int)-1:=by omega
 have hi2:((b.length:Int)-1).toNat=b.length-1:=by omega
 have hlz:=lz32_calls (nthd b (b.length-1)) w htop (hb.nth _)
 have HLZ:=hid hlz
 have HN:=hid hn
 clear hlz hn ec
 go_enter Tryz.func228,Tryz.ntmps228
 go_wp2_with fail
 refine HLZ.out.mono ?_;rintro e w1 ⟨s,rfl,hs,rfl⟩
 have HS:=hid hs
 have hs32:=hs.1
 clear hs HLZ
 go_wp2_with fail
 have hcap:(b.length:Int)≤(b.length:Int)+1:=by omega
 obtain ⟨wo,rfl⟩:∃ wo:World,wo=w1:=⟨_,rfl⟩
 have HSA:Hid (∀ W,Below wo.heap.size wo W→_):=hid fun W hW=>shift_calls A ca a s W hs32 hm ha (hA.ext hW)
 have HSB:Hid (∀ W,Below wo.heap.size wo W→_):=hid fun W hW=>shift_calls (some ⟨bB,oB,none⟩) cb b s W hs32 (by omega) hb (hB.ext hW)
 go_region_held3 (fun w'=>Below wo.heap.size wo w')
  (first|exact (Below.refl _ _).drew|exact Below.refl _ _|exact hB1|exact hB2)
  (first
    | (go_at_call 235;((with_reducible refine (HSA.out _ (by first|exact drewN_below wo _|exact (Below.refl _ _).drew|exact Below.refl _ _)).mono ?_);rintro e w2 ⟨p1,r1,rfl,hp1,hu1,hsh1,hb1⟩);have hB1:Below wo.heap.size wo w2:=ext_trans (by first|exact drewN_below wo _|exact (Below.refl _ _).drew|exact Below.refl _ _) hb1;have HU1:=hid hu1;have HSH1:=hid hsh1;clear hu1 hsh1 hb1)
    | (go_at_call 235;((with_reducible refine (HSB.out _ hB1).mono ?_);rintro e w3 ⟨p2,r2,rfl,hp2,hu2,hsh2,hb2⟩);have hB2:Below wo.heap.size wo w3:=ext_trans hB1 hb2;have HU2:=hid hu2;have HSH2:=hid hsh2;have HU3:=hid (HU1.out.ext hb2);have hp3:wo.heap.size≤p2:=Nat.le_trans hB1.size hp2;have hpne:p1≠p2:=Nat.ne_of_lt (Nat.lt_of_lt_of_le (Blk.lt HU1.out) hp2);clear hu2 hsh2 hb2 HU1 hp2))
 have HL0:=hid (long_start ha hb hs32 hl (by omega) htop HSH1.out)
 have hdv:=ShAt.divisor hs32 HSH2.out hb (by omega) HS.out.2.2
 have HDV:=hid (hdv.2 HS.out.2.1)
 have hdl:(r2.take b.length).length=b.length:=by rw [List.length_take,HSH2.out.len];omega
 have hdd:=HSH2.out.dig.take b.length
 have hdw:=HU2.out.wds.take b.length
 have hD:=hdv.1
 have HLEN:=hid HSH1.out.len
 generalize r2.take b.length=d at *
 have HDL:=hid hdl
 have HD:=hid hD
 have HDW:=hid hdw
 have hal:b.length≤100000000:=by omega
 have hmk:=fun w=>run_makeU32 w (a.length-b.length+1) (by omega)
 have ec:((a.length-b.length+1:Nat):Int)=(a.length:Int)-b.length+1:=by omega
 rw [ec] at hmk
 have hp23:p2<w3.heap.size:=Blk.lt HU2.out
 clear ec hdv hdl hD hdw HSA HSB HU2 HSH2
 go_wp2
 have hLW:LW wo (w3.alloc (.cells (Array.replicate (a.length-b.length+1) (.int .u32 0)) 240 (0,0))) p1 p2 w3.heap.size r1 d (List.replicate (a.length-b.length+1) 0) :=
  ⟨Blk.alloc HU3.out _,HDW.out.ext ((Below.refl _ _).alloc (Nat.le_refl _) _),UBlk.made _ _ _ rfl,hB2.alloc hB2.size _⟩
 have hp13:p1<w3.heap.size:=Blk.lt HU3.out
 obtain ⟨p3,hp3e⟩:∃ p3,Hid (w3.heap.size=p3):=⟨_,rfl⟩
 rw [hp3e.out] at hLW hp13 hp23 ⊢
 have HLW:=hid hLW
 have hD0:Hid (0<val b*2 ^ s):=hid (by
  have:=Nat.two_pow_pos s
  refine Nat.mul_pos ?_ this
  have e2:=val_take_succ b (b.length-1)
  rw [Nat.sub_add_cancel (by omega),List.take_length] at e2
  have:=Nat.mul_pos (Nat.pow_pos (n:=b.length-1) (show 0<4294967296 by omega)) htop
  omega)
 clear hLW HU3 HDW hmk
 go_loopw [11,12,13,14] (fun i _ _ _ wr=>∃ (jj:Nat) (rest out:List Nat),jj≤a.length-b.length+1∧i=.int .i64 ((jj:Int)-1)∧Hid (LW wo wr p1 p2 p3 rest d out)∧Hid (LongAt (val a*2 ^ s) (val b*2 ^ s) b.length rest out jj)∧Hid (rest.length=a.length+1∧out.length=a.length-b.length+1)) (fun i _ _ _ _=>(intOf i+1).toNat)
 case atStart=>exact ⟨a.length-b.length+1,r1,_,Nat.le_refl _,by congr 1;omega,HLW,HL0,hid ⟨HLEN.out,by simp⟩⟩
 case round =>
  obtain ⟨jj,rest,out,hjj,rfl,HW,HLA,HLN⟩:=hrel
  clear HLW HL0
  cases jj with
  | zero =>
    rw [show ((0:Nat):Int)-1 = -1 from rfl]
    have hmk2:=fun w=>run_makeU32 w b.length (by omega)
    go_wp2
    obtain ⟨hq,hr,hrr⟩:=HLA.out.done (by have:=HLN.out.1;omega)
    have hLW0:=HW.out
    have HQ:Hid (val out=val a / val b):=hid (by rw [hq];exact Nat.mul_div_mul_right _ _ (Nat.two_pow_pos s))
    have hz:=HLA.out.high b.length (by omega)
    have HZ:=hid hz
    have HR:=hid hr
    have hR4:wr.heap.size=wr.heap.size:=rfl
    have HWN:Hid (LW wo (wr.alloc (.cells (Array.replicate b.length (.int .u32 0)) 240 (0,0))) p1 p2 p3 rest d out):=hid
     ⟨Blk.alloc HW.out.r _,HW.out.d.ext ((Below.refl _ _).alloc (Nat.le_refl _) _),Blk.alloc HW.out.o _,HW.out.b.alloc HW.out.b.size _⟩
    have HBK:Hid (UBlk (wr.alloc (.cells (Array.replicate b.length (.int .u32 0)) 240 (0,0))) wr.heap.size (List.replicate b.length 0)):=hid (UBlk.made _ _ _ rfl)
    have hp14:p1<wr.heap.size:=Blk.lt HW.out.r
    have hp34:p3<wr.heap.size:=Blk.lt HW.out.o
    have hb4:wo.heap.size≤wr.heap.size:=HW.out.b.size
    obtain ⟨p4,hp4e⟩:∃ p4,Hid (wr.heap.size=p4):=⟨_,rfl⟩
    rw [hp4e.out] at HBK hp14 hp34 hb4 ⊢
    have hdr:=hid HLA.out.dig
    have hdo:=hid HLA.out.dout
    clear hq hr hrr hz hmk2 hLW0 HLA HW hR4
    go_loopw [16,150] (fun _ i wq=>∃ (k:Nat) (bk:List Nat),k≤b.length∧i=.int .i64 k∧Hid (LW wo wq p1 p2 p3 rest d out)∧Hid (UBlk wq p4 bk)∧Hid (BackAt rest bk s k b.length)) (fun _ i _=>b.length-(intOf i).toNat)
    case atStart=>exact ⟨0,_,Nat.zero_le _,rfl,HWN,HBK,hid (BackAt.start rest s b.length)⟩
    case round =>
     clear HWN HBK
     obtain ⟨k,bk,hk,rfl,HW,HB,HBA⟩:=hrel
     have hlb:=HBA.out.len
     by_cases hlt:k<b.length
     ·have x1:=hdr.out.nth k
      have x2:=hdr.out.nth (k+1)
      have c1:=UBlk.cell HW.out.r k (by have:=HLN.out.1;omega)
      have c2:=UBlk.cell HW.out.r (k+1) (by have:=HLN.out.1;omega)
      have c3:=UBlk.cell HB.out k (by omega)
      have f3:=Blk.free HB.out k
      have a1:IntKind.i64.wrap ((k:Int)+1)=(k:Int)+1:=by rw [IntKind.wrap_i64];omega
      have a2:0≤(k:Int)+1:=by omega
      have a3:((k:Int)+1).toNat=k+1:=by omega
      have a4:(k:Int)+1<(a.length:Int)+1:=by omega
      have a5:(k:Int)<(a.length:Int)+1:=by omega
      have a6:(k:Int)<b.length:=by omega
      clear hlb
      go_wp2
      go_still_tail 19,(by kernel_rfl)
      change wpList _ _ _ _ _ wr.drew
      have E1:Hid (bits .or .u64 ((nthd rest (k+1):Int)*4294967296) (nthd rest k:Nat) / 2 ^ s % 4294967296=(((nthd rest k+4294967296*nthd rest (k+1)) / 2 ^ s % 4294967296:Nat):Int)):=hid (by
       rw [or_top2 _ _ x2 x1,castm,Int.natCast_ediv,Int.natCast_pow,Nat.mul_comm (nthd rest (k+1)),Nat.add_comm];rfl)
      have hst:=hid (HBA.out.step hdr.out hs32 hlt)
      go_wp2
      go_roundw
      case rel=>exact ⟨k+1,_,by omega,by go_num,hid (LW.drewN (wr:=wr.setCell ⟨p4,k,none⟩ _) ⟨UBlk.but HW.out.r ((But.refl p4 wr).set k _) (by omega),HW.out.d.but2 (by intro b' o' e;injection e with e;injection e with e _;omega) ((But.refl p4 wr).set k _),UBlk.but HW.out.o ((But.refl p4 wr).set k _) (by omega),HW.out.b.setCell (by show _≤p4;omega) _⟩ 1),hid (by rw [E1.out];exact HB.out.set k _),hst⟩
      case measure=>simp [intOf];omega
     ·obtain rfl:k=b.length:=by omega
      have hbv:=HBA.out.done HZ.out HR.out (by
       rcases Nat.eq_zero_or_pos (val b) with e|e
       ·have:=hD0.out;rw [e,Nat.zero_mul] at this;omega
       ·exact e)
      have HBV:=hid hbv
      have htr:=trim_calls (some ⟨p3,0,none⟩) (a.length-b.length+1) out wr (by rw [HLN.out.2];omega) (by unfold maxLen;omega) HW.out.o.wds
      have htr2:=trim_calls (some ⟨p4,0,none⟩) b.length bk wr (by rw [hlb];omega) (by unfold maxLen;omega) HB.out.wds
      rw [HLN.out.2] at htr
      rw [hlb] at htr2
      have HT1:=hid htr
      have HT2:=hid htr2
      have HLB:=hid hlb
      clear hbv htr htr2 hlb
      go_wp2_with fail
      refine HT1.out.mono ?_;rintro e w7 ⟨k1,rfl,hk1,ht1,e7⟩
      subst e7
      have hfin1:=HW.out.o.wds.take k1
      rw [ht1,trimL_digits hdo.out,HQ.out] at hfin1
      have hkl1:k1=(digits (val a / val b)).length:=by
       rw [←HQ.out,←trimL_digits hdo.out,←ht1,List.length_take,HLN.out.2];have:=HLN.out.2;omega
      have HK1:=hid hkl1
      have HF1:=hid hfin1
      clear ht1 hfin1 hkl1
      go_wp2_with fail
      refine HT2.out.mono ?_;rintro e w8 ⟨k2,rfl,hk2,ht2,e8⟩
      subst e8
      have hfin2:=HB.out.wds.take k2
      rw [ht2,trimL_digits HBA.out.dig,HBV.out] at hfin2
      have hkl2:k2=(digits (val a % val b)).length:=by
       rw [←HBV.out,←trimL_digits HBA.out.dig,←ht2,List.length_take,HLB.out];have:=HLB.out;omega
      have HK2:=hid hkl2
      have HF2:=hid hfin2
      clear ht2 hfin2 hkl2
      go_wp2
      go_ret2
      exact ⟨_,_,rfl,⟨_,_,by rw [←HK1.out];rfl,by rw [←HK1.out];have:=HLN.out.2;omega,by omega,HF1.out⟩,⟨_,_,by rw [←HK2.out];rfl,by rw [←HK2.out];have:=HLB.out;omega,by omega,HF2.out⟩,HW.out.b⟩
  | succ j =>
    rw [show ((j+1:Nat):Int)-1=j from by omega]
    have hr1:rest.length=a.length+1:=HLN.out.1
    have hjn:j+b.length≤a.length:=by omega
    have a1:IntKind.i64.wrap ((j:Int)+b.length)=(j:Int)+b.length:=by rw [IntKind.wrap_i64];omega
    have a2:0≤(j:Int)+b.length:=by omega
    have a3:((j:Int)+b.length).toNat=j+b.length:=by omega
    have a4:IntKind.i64.wrap ((j:Int)+b.length-1)=(j:Int)+b.length-1:=by rw [IntKind.wrap_i64];omega
    have a5:0≤(j:Int)+b.length-1:=by omega
    have a6:((j:Int)+b.length-1).toNat=j+(b.length-1):=by omega
    have a7:(j:Int)+b.length<(a.length:Int)+1:=by omega
    have a8:(j:Int)+b.length-1<(a.length:Int)+1:=by omega
    have c1:=UBlk.cell HW.out.r (j+b.length) (by omega)
    have c2:=UBlk.cell HW.out.r (j+(b.length-1)) (by omega)
    have hx1:=HLA.out.dig.nth (j+b.length)
    have hx2:=HLA.out.dig.nth (j+(b.length-1))
    clear hr1
    go_wp2
    go_quiet (fail)
    have E1:=or_top2 _ _ hx1 hx2
    rw [E1]
    clear E1
    obtain ⟨top,htp⟩:∃ top:Nat,Hid (nthd rest (j+b.length)*4294967296+nthd rest (j+(b.length-1))=top):=⟨_,rfl⟩
    rw [htp.out]
    have htb:(top:Int)<18446744073709551616:=by (have:=htp.out;omega)
    have hw2:LW wo (wr.drewN nq) p1 p2 p3 rest d out:=HW.out.drewN nq
    have d1:=hw2.d
    obtain ⟨b5,o5,e5,d1⟩:=hw2.d (b.length-1) (by (have:=HDL.out;omega))
    injection e5 with e5;injection e5 with e51 e52;subst e51;subst e52
    rw [Nat.zero_add] at d1
    have y1:=hdd.nth (b.length-1)
    have y0:=HDV.out
    have i1:IntKind.i64.wrap ((b.length:Int)-1)=(b.length:Int)-1:=by rw [IntKind.wrap_i64];omega
    have i3:(b.length:Int)-1<b.length:=by omega
    have y2:(0:Int)<nthd d (b.length-1):=by omega
    have HW2:=hid hw2
    obtain ⟨wq,hwq⟩:∃ wq,Hid (wr.drewN nq=wq):=⟨_,rfl⟩
    rw [hwq.out] at HW2 d1 ⊢
    clear hw2 a1 a2 a3 a4 a5 a6 a7 a8 c1 c2 hx1 hx2
    have hjr:j+b.length<rest.length:=by (have:=HLN.out.1;omega)
    have hun:=HLA.out.under hjr
    have hd2:val d*4294967296=val b*2 ^ s*4294967296:=by rw [HD.out]
    have HT:Hid (Trial 4294967296 (4294967296 ^ (b.length-2)) (nthd d (b.length-1)) (nthd d (b.length-2)) (val (d.take (b.length-2))) (nthd rest (j+b.length)) (nthd rest (j+(b.length-1))) (nthd rest (j+(b.length-2))) (val (((rest.drop j).take (b.length+1)).take (b.length-2))) (val d) (val ((rest.drop j).take (b.length+1)))):=hid (by
     have h1:=HN.out
     have h2:=round_trial (rest:=rest) (d:=d) (j:=j) (n:=n) (by rw [HDL.out,h1]) HLA.out.dig hdd (by omega) (by rw [h1] at y0;exact y0) (by rw [hd2];have:=hun.2;rw [h1] at this;exact this)
     rw [h1]
     exact h2)
    have hst:=HT.out.start
    rw [htp.out] at hst
    have HST:=hid hst
    have HUN:=hid hun
    have hx0:Hid (nthd rest (j+(b.length-2))<4294967296):=hid (HLA.out.dig.nth _)
    have hz2:Hid (nthd d (b.length-2)<4294967296):=hid (hdd.nth _)
    clear hst hun hd2 hjr
    go_wp2
    go_quiet (fail)
    obtain ⟨q0,hq0⟩:∃ q0:Nat,Hid (top / nthd d (b.length-1)=q0):=⟨_,rfl⟩
    obtain ⟨r0,hr0⟩:∃ r0:Nat,Hid (top % nthd d (b.length-1)=r0):=⟨_,rfl⟩
    rw [hq0.out,hr0.out] at HST
    have E1:(top:Int) / (nthd d (b.length-1):Nat)=(q0:Nat):=by rw [←hq0.out,Int.natCast_ediv]
    have E2:(top:Int) % (nthd d (b.length-1):Nat)=(r0:Nat):=by rw [←hr0.out,Int.natCast_emod]
    rw [E1,E2]
    have hqb:q0<18446744073709551616:=by (have:=Nat.div_le_self top (nthd d (b.length-1));have:=hq0.out;omega)
    have hrb:r0<8589934592:=by (have:=Nat.mod_lt top (show 0<nthd d (b.length-1) by omega);have:=hr0.out;omega)
    clear E1 E2
    go_wp2
    go_loopw [13,14] (fun q r wr2=>∃ (qn rn k:Nat),q=.int .u64 qn∧r=.int .u64 rn∧Hid (Guess 4294967296 (nthd d (b.length-1)) (nthd rest (j+b.length)) (nthd rest (j+(b.length-1))) (val d) (val ((rest.drop j).take (b.length+1))) qn rn)∧qn<18446744073709551616∧rn<8589934592∧wr2=wq.drewN k) (fun q _ _=>(intOf q).toNat)
    case atStart=>exact ⟨q0,r0,_,by rw [Mul64.wrapN _ hqb],rfl,HST,hqb,hrb,rfl⟩
    case round =>
     clear HST hqb hrb
     obtain ⟨qn,rn,k,rfl,rfl,HG,hqb,hrb,rfl⟩:=hrel
     have hw3:=HW2.out.drewN k
     obtain ⟨b6,o6,e6,d2⟩:=hw3.d (b.length-2) (by (have:=HDL.out;omega))
     injection e6 with e6;injection e6 with e61 e62;subst e61;subst e62
     rw [Nat.zero_add] at d2
     obtain ⟨b7,o7,e7,d3⟩:=hw3.d (b.length-1) (by (have:=HDL.out;omega))
     injection e7 with e7;injection e7 with e71 e72;subst e71;subst e72
     rw [Nat.zero_add] at d3
     have c3:=UBlk.cell hw3.r (j+(b.length-2)) (by (have:=HLN.out.1;omega))
     have x0:=hx0.out
     have z2:=hz2.out
     have j1:IntKind.i64.wrap ((b.length:Int)-2)=(b.length:Int)-2:=by rw [IntKind.wrap_i64];omega
     have j2:(0:Int)≤(b.length:Int)-2:=by omega
     have j3:((b.length:Int)-2).toNat=b.length-2:=by omega
     have j4:(b.length:Int)-2<b.length:=by omega
     have k1:IntKind.i64.wrap ((j:Int)+b.length)=(j:Int)+b.length:=by rw [IntKind.wrap_i64];omega
     have k2:IntKind.i64.wrap ((j:Int)+b.length-2)=(j:Int)+b.length-2:=by rw [IntKind.wrap_i64];omega
     have k3:0≤(j:Int)+b.length-2:=by omega
     have k4:((j:Int)+b.length-2).toNat=j+(b.length-2):=by omega
     have k5:(j:Int)+b.length-2<(a.length:Int)+1:=by omega
     have HW3:=hid hw3
     obtain ⟨wk,hwk⟩:∃ wk,Hid (wq.drewN k=wk):=⟨_,rfl⟩
     rw [hwk.out] at HW3 c3 d2 d3 ⊢
     clear hw3
     have hqd0:qn<4294967296→Hid (qn*nthd d (b.length-2)≤18446744065119617025):=fun h=>hid (wmul_digit h z2)
     by_cases hcond:rn<4294967296∧(4294967296≤qn∨rn*4294967296+nthd rest (j+(b.length-2))<qn*nthd d (b.length-2))
     ·obtain ⟨hr,hor⟩:=hcond
      obtain ⟨hq1,hg1⟩:=HT.out.step HG.out hor
      have HG1:=hid hg1
      have r1:decide ((rn:Int)<4294967296)=true:=decide_eq_true (by omega)
      clear hg1
      by_cases hq:4294967296≤qn
      ·have r2:decide ((4294967296:Int)≤qn)=true:=decide_eq_true (by omega)
       clear hor hqd0
       go_wp2
       go_quiet (fail)
       go_wp2
       go_roundw
       case rel=>exact ⟨qn-1,rn+nthd d (b.length-1),_,u64_pred hq1,by go_num,HG1,by omega,by omega,by rw [←hwk.out];exact drewN_add _ _ _⟩
       case measure=>simp [intOf];omega
      ·have r2:decide ((4294967296:Int)≤qn)=false:=decide_eq_false (by omega)
       have hqd:=hqd0 (by omega)
       have m1:0≤(qn:Int)*(nthd d (b.length-2):Nat):=by rw [←Int.natCast_mul];omega
       have m2:(qn:Int)*(nthd d (b.length-2):Nat)≤18446744065119617025:=by rw [←Int.natCast_mul];have:=hqd.out;omega
       have m3:IntKind.u64.wrap ((qn:Int)*(nthd d (b.length-2):Nat))=(qn:Int)*(nthd d (b.length-2):Nat):=by rw [IntKind.wrap_u64];omega
       have E1:=or_top2 _ _ hr x0
       have r3:decide (bits .or .u64 ((rn:Int)*4294967296) (nthd rest (j+(b.length-2)):Nat)<(qn:Int)*(nthd d (b.length-2):Nat))=true:=decide_eq_true (by rw [E1,←Int.natCast_mul];omega)
       clear E1 hqd0 hor
       go_wp2
       go_quiet (fail)
       go_wp2
       go_roundw
       case rel=>exact ⟨qn-1,rn+nthd d (b.length-1),_,u64_pred hq1,by go_num,HG1,by omega,by omega,by rw [←hwk.out];exact drewN_add _ _ _⟩
       case measure=>simp [intOf];omega
     ·have hfit:=HT.out.fit HG.out hcond
      have hq32:=hfit.1
      have HFIT:=hid hfit
      have hge:=hid HG.out.ge
      have hor:¬ rn<4294967296∨(rn<4294967296∧Hid (¬ rn*4294967296+nthd rest (j+(b.length-2))<qn*nthd d (b.length-2))):=by
       by_cases hr:rn<4294967296
       ·exact .inr ⟨hr,hid fun h=>hcond ⟨hr,.inr h⟩⟩
       ·exact .inl hr
      clear hfit hcond HG
      have hlen1:(((rest.drop j).take (b.length+1)).length)=b.length+1:=by simp;have:=HLN.out.1;omega
      have htk:∀ (l cr:Nat) (W:World),l=b.length+1→UBlk W p1 rest→Wds W (some ⟨p2,0,none⟩) d→_:=fun l cr W hl1 h1 h2 =>
       take_win p1 j b.length l cr rest (some ⟨p2,0,none⟩) (b.length+1) d qn W hl1 HDL.out h1 (by have:=HLN.out.1;omega) (by have:=HLN.out.1;omega) HLA.out.dig hdd h2 (by intro b' o' e;injection e with e;injection e with e _;omega) hq32
      have HTK:=hid htk
      have hll:j+b.length+1-j=b.length+1:=by omega
      have HLL:=hid hll
      have t1:(j:Int)≤(j:Int)+b.length+1:=by omega
      have t2:(j:Int)+b.length+1≤(a.length:Int)+1:=by omega
      have t3:IntKind.i64.wrap ((j:Int)+b.length+1)=(j:Int)+b.length+1:=by rw [IntKind.wrap_i64];omega
      clear htk hlen1 hll
      rcases hor with hr|⟨hr,hng⟩
      all_goals first
       | (have r1:decide ((rn:Int)<4294967296)=false:=decide_eq_false (by omega)
          clear hqd0
          go_wp2
          go_quiet (fail)
          clear r1)
       | (have r1:decide ((rn:Int)<4294967296)=true:=decide_eq_true (by omega)
          have r2:decide ((4294967296:Int)≤qn)=false:=decide_eq_false (by omega)
          have hqd:=hqd0 hq32
          have m1:0≤(qn:Int)*(nthd d (b.length-2):Nat):=by rw [←Int.natCast_mul];omega
          have m2:(qn:Int)*(nthd d (b.length-2):Nat)≤18446744065119617025:=by rw [←Int.natCast_mul];have:=hqd.out;omega
          have m3:IntKind.u64.wrap ((qn:Int)*(nthd d (b.length-2):Nat))=(qn:Int)*(nthd d (b.length-2):Nat):=by rw [IntKind.wrap_u64];omega
          have E1:=or_top2 _ _ hr x0
          have r3:decide (bits .or .u64 ((rn:Int)*4294967296) (nthd rest (j+(b.length-2)):Nat)<(qn:Int)*(nthd d (b.length-2):Nat))=false:=decide_eq_false (by rw [E1,←Int.natCast_mul];have:=hng.out;omega)
          clear E1 hqd0 hqd
          go_wp2
          go_quiet (fail)
          clear r1 r2 r3 m1 m2 m3)
      all_goals
       clear j1 j2 j3 j4 k1 k2 k3 k4 k5 c3 d2 d3
       go_wp2_with fail
       refine (HTK.out _ _ _ HLL.out (HW3.out.drewN nq).r (HW3.out.drewN nq).d).mono ?_;rintro e w4 ⟨nw,s0,rfl,hu4,hb4,hta⟩
       have hw4:LW wo w4 p1 p2 p3 (putD rest j nw) d out:=⟨hu4,(HW3.out.drewN nq).d.but2 (by intro b' o' e;injection e with e;injection e with e _;omega) hb4,(HW3.out.drewN nq).o.but hb4 (by omega),(HW3.out.drewN nq).b.trans (hb4.below hp1 (HW3.out.drewN nq).b.size)⟩
       have hD1:Hid (val b*2 ^ s<4294967296 ^ b.length):=hid (by rw [←HD.out,←HDL.out];exact val_lt hdd)
       have hyes:=round_yes (U:=val ((rest.drop j).take (b.length+1))) (D:=val d) (q:=qn) (B:=4294967296 ^ (b.length+1)) (vn:=val nw) (s:=s0) (by rw [HD.out];exact hD0.out) hta.out.2.2.2 hta.out.2.2.1
        (by have:=val_lt hta.out.2.1;rwa [hta.out.1] at this) (by have:=val_lt ((HLA.out.dig.drop j).take (b.length+1));rwa [List.length_take,List.length_drop,Nat.min_eq_left (by have:=HLN.out.1;omega)] at this) hge.out HFIT.out.2
       have HYES:=hid hyes
       have HW4:=hid hw4
       have hs01:=hta.out.2.2.1
       have hj3:(j:Int)<(a.length:Int)-b.length+1:=by omega
       clear hu4 hb4 hw4 hyes
       by_cases h0:s0=0
       ·subst h0
        obtain ⟨hq1,hq2⟩:=HYES.out.1 rfl
        have hst:=hid (HLA.out.step (by have:=HLN.out.1;omega) (by have:=HLN.out.2;omega) hD1.out (by rw [←HD.out];exact hq1) hq32 hta.out.1 hta.out.2.1 (by rw [←HD.out];exact hq2))
        have c5:=UBlk.cell HW4.out.o j (by have:=HLN.out.2;omega)
        have f5:=Blk.free HW4.out.o j
        have hcm:(qn:Int) % 4294967296=qn:=by omega
        clear hq1 hq2
        go_wp2
        go_roundw
        case rel=>exact ⟨j,_,_,by omega,rfl,hid ⟨UBlk.but HW4.out.r ((But.refl p3 w4).set j _) (by omega),HW4.out.d.but2 (by intro b' o' e;injection e with e;injection e with e _;omega) ((But.refl p3 w4).set j _),HW4.out.o.set j qn,HW4.out.b.setCell (by show _≤p3;omega) _⟩,hst,hid ⟨by rw [putD_len (by have:=HLN.out.1;have:=hta.out.1;omega)];exact HLN.out.1,by rw [List.length_set];exact HLN.out.2⟩⟩
        case measure=>simp [intOf]
       ·have e1:s0=1:=by omega
        subst e1
        obtain ⟨hq1,hq2⟩:=HYES.out.2 (by omega)
        have hgv:∀ (l cr:Nat) (W:World),l=b.length+1→UBlk W p1 (putD rest j nw)→Wds W (some ⟨p2,0,none⟩) d→_:=fun l cr W hl1 h1 h2 =>
         give_win p1 j b.length l cr rest nw (some ⟨p2,0,none⟩) (b.length+1) d W hl1 HDL.out hta.out.1 h1 (by have:=HLN.out.1;omega) (by have:=HLN.out.1;omega) HLA.out.dig hta.out.2.1 hdd h2 (by intro b' o' e;injection e with e;injection e with e _;omega)
        have HGV:=hid hgv
        have HQ1:=hid hq1
        have HQ2:=hid hq2
        have hqp:0<qn:=by rw [hq1];exact Nat.succ_pos _
        clear hq1 hq2 hgv
        go_wp2_with fail
        refine (HGV.out _ _ _ HLL.out HW4.out.r HW4.out.d).mono ?_;rintro e w5 ⟨nm,s1,rfl,hu5,hb5,hgi⟩
        have hw5:LW wo w5 p1 p2 p3 (putD rest j nm) d out:=⟨hu5,HW4.out.d.but2 (by intro b' o' e;injection e with e;injection e with e _;omega) hb5,HW4.out.o.but hb5 (by omega),HW4.out.b.trans (hb5.below hp1 HW4.out.b.size)⟩
        have HW5:=hid hw5
        have hval:=HQ2.out (val nm) s1 (by have:=val_lt hgi.out.2.1;rwa [hgi.out.1] at this) hgi.out.2.2.1 hgi.out.2.2.2
        have hst:=hid (HLA.out.step (q:=qn-1) (nw:=nm) (by have:=HLN.out.1;omega) (by have:=HLN.out.2;omega) hD1.out (by rw [←HD.out];have:=HQ1.out;omega) (by omega) hgi.out.1 hgi.out.2.1 (by rw [←HD.out];exact hval))
        have c5:=UBlk.cell HW5.out.o j (by have:=HLN.out.2;omega)
        have f5:=Blk.free HW5.out.o j
        have hcm:(qn:Int)-1=((qn-1:Nat):Int):=by omega
        have HCM:=hid hcm
        clear hval hcm hu5 hb5 hw5 HGV
        go_wp2
        go_roundw
        case rel=>exact ⟨j,_,_,by omega,rfl,hid ⟨UBlk.but HW5.out.r ((But.refl p3 w5).set j _) (by omega),HW5.out.d.but2 (by intro b' o' e;injection e with e;injection e with e _;omega) ((But.refl p3 w5).set j _),by rw [HCM.out];exact HW5.out.o.set j (qn-1),HW5.out.b.setCell (by show _≤p3;omega) _⟩,hst,hid ⟨by rw [putD_len (by have:=HLN.out.1;have:=hgi.out.1;omega)];exact HLN.out.1,by rw [List.length_set];exact HLN.out.2⟩⟩
        case measure=>simp [intOf]
end
end Go.Proofs.YtkljafmdbajfeaaGreatDoor
