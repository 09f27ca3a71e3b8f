/- Numbers as digits to the base 2^32, the lowest first. Plain mathematics. -/
import Derived.Test.YtkljafmdbajfeaaGreatDoorNoB00
namespace Go.Proofs.YtkljafmdbajfeaaGreatDoor
set_option linter.unusedVariables false
set_option linter.unusedSimpArgs false
open Go.Lib (hid)
section
def val:List Nat→Nat
 | []=>0
 | d :: ds=>d+4294967296*val ds
def digits (n:Nat):List Nat:=if h:n=0 then [] else n % 4294967296 :: digits (n / 4294967296)
termination_by n
decreasing_by exact Nat.div_lt_self (by omega) (by omega)
def Dig (ds:List Nat):Prop:=∀ d∈ds,d<4294967296
def trimL:List Nat→List Nat
 | []=>[]
 | d :: ds=>if d=0∧trimL ds=[] then [] else d :: trimL ds
def nthd (ds:List Nat) (i:Nat):Nat:=ds.getD i 0
theorem digits_zero:digits 0=[]:=by unfold digits;simp
theorem digits_pos {n:Nat} (h:n≠0):digits n=n % 4294967296 :: digits (n / 4294967296):=by rw [digits,dif_neg h]
theorem digits_nil {n:Nat} (h:digits n=[]):n=0:=by
 by_cases h0:n=0
 ·exact h0
 ·rw [digits_pos h0] at h;simp at h
theorem val_digits:∀ n,val (digits n)=n:=by
 intro n
 induction n using Nat.strongRecOn with
 | _ n ih =>
   by_cases h:n=0
   ·subst h;rw [digits_zero];rfl
   ·rw [digits_pos h,val,ih _ (Nat.div_lt_self (by omega) (by omega))];omega
theorem digits_dig:∀ n,Dig (digits n):=by
 intro n
 induction n using Nat.strongRecOn with
 | _ n ih =>
   by_cases h:n=0
   ·subst h;rw [digits_zero];intro d hd;simp at hd
   ·rw [digits_pos h];intro d hd
    rcases List.mem_cons.1 hd with rfl|hd
    ·exact Nat.mod_lt _ (by omega)
    ·exact ih _ (Nat.div_lt_self (by omega) (by omega)) d hd
theorem trimL_digits:∀ {ds:List Nat},Dig ds→trimL ds=digits (val ds)
 | [],_=>by rw [val,digits_zero];rfl
 | d :: ds,h=>by
   have hd:=h d (by simp)
   have ih:=trimL_digits (ds:=ds) fun x hx=>h x (List.mem_cons_of_mem _ hx)
   rw [trimL,val,ih]
   by_cases h0:d+4294967296*val ds=0
   ·rw [h0,digits_zero,if_pos ⟨by omega,by rw [show val ds=0 by omega,digits_zero]⟩]
   ·rw [digits_pos h0,if_neg (fun ⟨e1,e2⟩=>h0 (by have:=digits_nil e2;omega))]
    congr 1
    ·omega
    ·congr 1;omega
theorem Dig.nth {ds:List Nat} (h:Dig ds) (i:Nat):nthd ds i<4294967296:=by
 unfold nthd
 by_cases hi:i<ds.length
 ·rw [List.getD_eq_getElem?_getD,List.getElem?_eq_getElem hi];exact h _ (List.getElem_mem hi)
 ·rw [List.getD_eq_getElem?_getD,List.getElem?_eq_none (by omega)];simp
theorem nthd_lt {ds:List Nat} {i:Nat} (h:i<ds.length):nthd ds i=ds[i]:=by unfold nthd;simp [h]
theorem val_append:∀ (a b:List Nat),val (a ++ b)=val a+4294967296 ^ a.length*val b
 | [],b=>by simp [val]
 | d :: a,b=>by
   simp only [List.cons_append,val,List.length_cons,val_append a b,Nat.pow_succ,Nat.mul_add]
   rw [Nat.mul_comm (4294967296 ^ a.length) 4294967296,Nat.mul_assoc,Nat.add_assoc]
theorem val_lt:∀ {ds:List Nat},Dig ds→val ds<4294967296 ^ ds.length
 | [],_=>by simp [val]
 | d :: ds,h=>by
   have hd:=h d (by simp)
   have ih:=val_lt (ds:=ds) fun x hx=>h x (List.mem_cons_of_mem _ hx)
   rw [val,List.length_cons,Nat.pow_succ];omega
theorem Dig.take {ds:List Nat} (h:Dig ds) (k:Nat):Dig (ds.take k):=fun d hd=>h d (List.mem_of_mem_take hd)
theorem Dig.drop {ds:List Nat} (h:Dig ds) (k:Nat):Dig (ds.drop k):=fun d hd=>h d (List.mem_of_mem_drop hd)
theorem take_nthd {ds:List Nat} {i:Nat} (h:i<ds.length):ds.take (i+1)=ds.take i ++ [nthd ds i]:=by
 rw [List.take_succ_eq_append_getElem h,nthd_lt h]
theorem drop_nthd {ds:List Nat} {i:Nat} (h:i<ds.length):ds.drop i=nthd ds i :: ds.drop (i+1):=by
 rw [List.drop_eq_getElem_cons h,nthd_lt h]
theorem digits_ge:∀ {n:Nat},n≠0→4294967296 ^ ((digits n).length-1)≤n:=by
 intro n
 induction n using Nat.strongRecOn with
 | _ n ih =>
   intro h0
   rw [digits_pos h0,List.length_cons,Nat.add_sub_cancel]
   by_cases h1:n / 4294967296=0
   ·rw [h1,digits_zero];simp;omega
   ·have h2:=ih (n / 4294967296) (Nat.div_lt_self (by omega) (by omega)) h1
    have hl:0<(digits (n / 4294967296)).length:=by rw [digits_pos h1];simp
    have e:4294967296 ^ (digits (n / 4294967296)).length=4294967296*4294967296 ^ ((digits (n / 4294967296)).length-1):=by
     rw [←Nat.pow_succ',Nat.succ_eq_add_one,Nat.sub_add_cancel hl]
    rw [e]
    have:=Nat.mul_le_mul_left 4294967296 h2
    omega
theorem digits_len_lt {n m:Nat} (h:(digits n).length<(digits m).length):n<m:=by
 have h1:=val_lt (digits_dig n)
 rw [val_digits] at h1
 have h2:=digits_ge (n:=m) (fun e=>by rw [e,digits_zero] at h;simp at h)
 have h3:4294967296 ^ (digits n).length≤4294967296 ^ ((digits m).length-1):=Nat.pow_le_pow_right (by omega) (by omega)
 omega
theorem val_lt_of {a b:List Nat} (ha:Dig a) (hl:a.length=b.length) {i:Nat} (hi:i<a.length) (hd:a.drop (i+1)=b.drop (i+1)) (h:nthd a i<nthd b i):val a<val b:=by
 have ea:val a=val (a.take i)+4294967296 ^ i*val (a.drop i):=by
  have:=val_append (a.take i) (a.drop i);rw [List.take_append_drop] at this;rw [this,List.length_take,Nat.min_eq_left (by omega)]
 have eb:val b=val (b.take i)+4294967296 ^ i*val (b.drop i):=by
  have:=val_append (b.take i) (b.drop i);rw [List.take_append_drop] at this;rw [this,List.length_take,Nat.min_eq_left (by omega)]
 have hb:=val_lt (ha.take i)
 rw [List.length_take,Nat.min_eq_left (by omega)] at hb
 rw [ea,eb,drop_nthd hi,drop_nthd (by omega:i<b.length),val,val,hd]
 have:4294967296 ^ i*(nthd a i+4294967296*val (b.drop (i+1)))+4294967296 ^ i≤4294967296 ^ i*(nthd b i+4294967296*val (b.drop (i+1))):=by
  rw [←Nat.mul_succ];exact Nat.mul_le_mul_left _ (by omega)
 omega
end
section
open Go.RowKit
def Blk (w:World) (b:Nat) (vs:List Value) (T:TypeId):Prop:=w.heap[b]? = some (.cells vs.toArray T (0,0))
def IBlk (w:World) (b:Nat) (xs:List Int):Prop:=Blk w b (xs.map (Value.int .i64)) 3
theorem Blk.lt {w:World} {b:Nat} {vs:List Value} {T:TypeId} (h:Blk w b vs T):b<w.heap.size:=lt_of_block h
theorem Blk.cell {w:World} {b:Nat} {vs:List Value} {T:TypeId} (h:Blk w b vs T) (i:Nat) (hi:i<vs.length):w.cell? ⟨b,i,none⟩=some vs[i]:=by
 unfold Blk at h;simp [World.cell?,h,hi]
theorem Blk.free {w:World} {b:Nat} {vs:List Value} {T:TypeId} (h:Blk w b vs T) (i:Nat):w.frozen? ⟨b,i,none⟩=false:=by
 unfold Blk at h;simp [World.frozen?,h]
theorem Blk.set {w:World} {b:Nat} {vs:List Value} {T:TypeId} (h:Blk w b vs T) (i:Nat) (v:Value):Blk (w.setCell ⟨b,i,none⟩ v) b (vs.set i v) T:=by
 have hlt:=h.lt
 unfold Blk at *
 have h':w.heap[b]=.cells vs.toArray T (0,0):=by simpa [Array.getElem?_eq_getElem hlt] using h
 show (w.heap.modify b _)[b]? = _
 rw [Array.getElem?_eq_getElem (by simpa using hlt),Array.getElem_modify_self,h']
 simp
theorem Blk.other {w:World} {b:Nat} {vs:List Value} {T:TypeId} (h:Blk w b vs T) (a:Addr) (v:Value) (hb:b≠a.block):Blk (w.setCell a v) b vs T:=by
 unfold Blk at *;rw [Below.heap_setCell _ _ _ _ hb];exact h
theorem Blk.below {w w':World} {b B:Nat} {vs:List Value} {T:TypeId} (h:Blk w b vs T) (hb:Below B w w') (hB:b<B):Blk w' b vs T:=by
 unfold Blk at *;rw [hb.block b hB];exact h
theorem Blk.ext {w w':World} {b:Nat} {vs:List Value} {T:TypeId} (h:Blk w b vs T) (hb:Below w.heap.size w w'):Blk w' b vs T:=h.below hb h.lt
theorem Blk.alloc {w:World} {b:Nat} {vs:List Value} {T:TypeId} (h:Blk w b vs T) (o:Obj):Blk (w.alloc o) b vs T:=h.ext ((Below.refl _ _).alloc (Nat.le_refl _) _)
theorem Blk.new (w:World) (vs:List Value) (T:TypeId):Blk (w.alloc (.cells vs.toArray T (0,0))) w.heap.size vs T:=by
 exact heap_alloc_new _ _
theorem Blk.new' (w:World) (vs:List Value) (T:TypeId) (b:Nat) (h:w.heap.size=b):Blk (w.alloc (.cells vs.toArray T (0,0))) b vs T:=by subst h;exact Blk.new _ _ _
theorem Blk.drewN {w:World} {b:Nat} {vs:List Value} {T:TypeId} (h:Blk w b vs T) (n:Nat):Blk (w.drewN n) b vs T:=h
theorem IBlk.cell {w:World} {b:Nat} {xs:List Int} (h:IBlk w b xs) (i:Nat) (hi:i<xs.length):w.cell? ⟨b,i,none⟩=some (.int .i64 (nth xs i)):=by
 rw [Blk.cell h i (by simpa using hi)];simp [nth_lt hi]
theorem IBlk.set {w:World} {b:Nat} {xs:List Int} (h:IBlk w b xs) (i:Nat) (v:Int):IBlk (w.setCell ⟨b,i,none⟩ (.int .i64 v)) b (xs.set i v):=by
 have:=Blk.set h i (.int .i64 v);unfold IBlk;rw [List.map_set];exact this
theorem IBlk.ints {w:World} {b:Nat} {xs:List Int} (h:IBlk w b xs):Ints w (some ⟨b,0,none⟩) xs:=fun i hi=>⟨b,0,rfl,by rw [Nat.zero_add];exact h.cell i hi⟩
def zeros (n:Nat):List Int:=List.replicate n 0
theorem zeros_len (n:Nat):(zeros n).length=n:=List.length_replicate
theorem nth_zeros (n i:Nat):nth (zeros n) i=0:=by unfold nth zeros;simp [List.getElem?_replicate];split<;>rfl
theorem infoInt:(Tryz.prog.info? 3).map (fun i=>(i.zero,i.size,i.bytes))=some (some (.int .i64 0),1,8):=by kernel_rfl
theorem madeZeros (n:Nat):madeCells (Value.int .i64 0).cells n=((zeros n).map (Value.int .i64)).toArray:=by
 unfold madeCells zeros
 apply Array.ext
 ·simp
 ·intro j h1 h2;simp [Value.cells,Nat.mod_one]
theorem run_makeInts (w:World) (n:Nat) (h:n≤35184372088832) :
 (Instr.makeSlice 23 (.int .i64 n) (.int .i64 n)).run Tryz.prog w=.ok (.slice (some ⟨w.heap.size,0,none⟩) n n) (w.alloc (.cells ((zeros n).map (Value.int .i64)).toArray 3 (0,0))):=by
 obtain ⟨i,hi,hz,hs,hb⟩:=info_parts infoInt
 rw [run_make w 23 3 i (.int .i64 0) Tryz.underlying23 hi hz .i64 .i64 n n (by omega) (by omega) (by rw [hb];omega) (by omega)]
 simp only [Int.toNat_natCast,hs,Nat.mul_one]
 rw [madeZeros]
theorem IBlk.made (w:World) (n:Nat):IBlk (w.alloc (.cells ((zeros n).map (Value.int .i64)).toArray 3 (0,0))) w.heap.size (zeros n):=Blk.new _ _ _
theorem IBlk.alloc {w:World} {b:Nat} {xs:List Int} (h:IBlk w b xs) (o:Obj):IBlk (w.alloc o) b xs:=Blk.alloc h o
structure But (b:Nat) (w w':World):Prop where
 os:w'.os=w.os
 tape:w'.tape=w.tape
 output:w'.output=w.output
 size:w.heap.size≤w'.heap.size
 block:∀ k,k<w.heap.size→k≠b→w'.heap[k]? = w.heap[k]?
theorem But.refl (b:Nat) (w:World):But b w w:=⟨rfl,rfl,rfl,Nat.le_refl _,fun _ _ _=>rfl⟩
theorem But.ext {b:Nat} {w w' w'':World} (h:But b w w') (k:Below w'.heap.size w' w''):But b w w'' :=
 ⟨k.os.trans h.os,k.tape.trans h.tape,k.output.trans h.output,Nat.le_trans h.size k.size,fun i hi hb=>(k.block i (Nat.lt_of_lt_of_le hi h.size)).trans (h.block i hi hb)⟩
theorem But.trans {b:Nat} {w w' w'':World} (h:But b w w') (k:But b w' w''):But b w w'' :=
 ⟨k.os.trans h.os,k.tape.trans h.tape,k.output.trans h.output,Nat.le_trans h.size k.size,fun i hi hb=>(k.block i (Nat.lt_of_lt_of_le hi h.size) hb).trans (h.block i hi hb)⟩
theorem But.alloc {b:Nat} {w w':World} (h:But b w w') (o:Obj):But b w (w'.alloc o):=h.ext ((Below.refl _ _).alloc (Nat.le_refl _) _)
theorem But.set {b:Nat} {w w':World} (h:But b w w') (i:Nat) (v:Value):But b w (w'.setCell ⟨b,i,none⟩ v) :=
 ⟨h.os,h.tape,h.output,by simpa using h.size,fun k hk hb=>by rw [Below.heap_setCell _ _ _ _ hb];exact h.block k hk hb⟩
theorem But.setNew {b:Nat} {w w':World} (h:But b w w') {a:Addr} (ha:w.heap.size≤a.block) (v:Value):But b w (w'.setCell a v) :=
 ⟨h.os,h.tape,h.output,by simpa using h.size,fun k hk hb=>by rw [Below.heap_setCell _ _ _ _ (by omega)];exact h.block k hk hb⟩
theorem But.below {b B:Nat} {w w':World} (h:But b w w') (hB:B≤b) (hs:B≤w.heap.size):Below B w w' :=
 ⟨h.os,h.tape,h.output,h.size,fun k hk=>h.block k (by omega) (by omega)⟩
theorem But.grown {w w0 w':World} (h:But w.heap.size w0 w') (hs:w.heap.size≤w0.heap.size) (hb:Below w.heap.size w w0):Below w.heap.size w w':=hb.trans (h.below (Nat.le_refl _) hs)
theorem Blk.but {w w':World} {b b':Nat} {vs:List Value} {T:TypeId} (h:Blk w b vs T) (hb:But b' w w') (hne:b≠b'):Blk w' b vs T:=by
 have:=h.lt
 unfold Blk at *;rw [hb.block b this hne];exact h
end
section
open Go.RowKit
structure Fr (S:Nat→Prop) (w w':World):Prop where
 os:w'.os=w.os
 tape:w'.tape=w.tape
 output:w'.output=w.output
 size:w.heap.size≤w'.heap.size
 block:∀ k,k<w.heap.size→¬ S k→w'.heap[k]? = w.heap[k]?
variable {S:Nat→Prop} {w w' w'':World}
theorem Fr.refl (S:Nat→Prop) (w:World):Fr S w w:=⟨rfl,rfl,rfl,Nat.le_refl _,fun _ _ _=>rfl⟩
theorem Fr.trans (h:Fr S w w') (k:Fr S w' w''):Fr S w w'' :=
 ⟨k.os.trans h.os,k.tape.trans h.tape,k.output.trans h.output,Nat.le_trans h.size k.size,fun i hi hb=>(k.block i (Nat.lt_of_lt_of_le hi h.size) hb).trans (h.block i hi hb)⟩
theorem Fr.ofBelow (h:Below w.heap.size w w'):Fr S w w':=⟨h.os,h.tape,h.output,h.size,fun k hk _=>h.block k hk⟩
end
section
open Go.RowKit
def Wds (w:World) (A:Option Addr) (ds:List Nat):Prop :=
 ∀ i,i<ds.length→∃ b off,A=some ⟨b,off,none⟩∧w.cell? ⟨b,off+i,none⟩=some (.int .u32 (nthd ds i:Nat))
theorem Wds.ext {w w':World} {A:Option Addr} {ds:List Nat} (h:Wds w A ds) (hb:Below w.heap.size w w'):Wds w' A ds:=fun i hi=>by
 obtain ⟨b,off,e,hc⟩:=h i hi
 exact ⟨b,off,e,by rw [hb.cell (cell_lt hc)];exact hc⟩
theorem Wds.take {w:World} {A:Option Addr} {ds:List Nat} (h:Wds w A ds) (k:Nat):Wds w A (ds.take k):=fun i hi=>by
 rw [List.length_take] at hi
 obtain ⟨b,off,e,hc⟩:=h i (by omega)
 refine ⟨b,off,e,?_⟩
 rw [hc];congr 3;unfold nthd;simp [List.getElem?_take,show i<k by omega]
theorem trimL_snoc0:∀ l:List Nat,trimL (l ++ [0])=trimL l
 | []=>by simp [trimL]
 | d :: l=>by simp only [List.cons_append,trimL,trimL_snoc0 l]
theorem trimL_snoc:∀ (l:List Nat) {d:Nat},d≠0→trimL (l ++ [d])=l ++ [d]
 | [],d,h=>by simp [trimL,h]
 | x :: l,d,h=>by simp only [List.cons_append,trimL,trimL_snoc l h];rw [if_neg (by simp)]
set_option maxHeartbeats 400000 in
theorem trim_calls (A:Option Addr) (c:Nat) (ds:List Nat) (w:World) (hc:ds.length≤c) (hm:c≤maxLen) (hA:Wds w A ds) :
 Calls Tryz.prog 224 #[.slice A ds.length c] w fun e w'=>∃ n,e=.returned (.slice A n c)∧n≤ds.length∧ds.take n=trimL ds∧w'=w:=by
 unfold maxLen at hm
 go_enter Tryz.func224,Tryz.ntmps224
 go_wp2
 go_loop [3] (fun i=>∃ n:Nat,n≤ds.length∧i=.int .i64 n∧trimL (ds.take n)=trimL ds) (fun i=>(intOf i).toNat)
 case atStart=>exact ⟨ds.length,Nat.le_refl _,rfl,by rw [List.take_length]⟩
 case round =>
  obtain ⟨n,hn,rfl,ht⟩:=hrel
  have HT:=hid ht;clear ht
  cases n with
  | zero =>
    go_wp2
    go_ret
    exact ⟨0,rfl,by omega,by rw [←HT.out];rfl,rfl⟩
  | succ n =>
    obtain ⟨b,off,rfl,g⟩:=hA n (by omega)
    have htk:=take_nthd (ds:=ds) (i:=n) (by omega)
    have HK:=hid htk;clear htk
    have ec:((n+1:Nat):Int)=(n:Int)+1:=by push_cast;rfl
    rw [ec]
    clear ec
    have hl:(n:Int)<ds.length:=by omega
    cases hd:nthd ds n with
    | zero =>
      rw [hd] at g
      have HD:=hid hd;clear hd
      go_wp2
      go_round
      case rel=>exact ⟨n,by omega,by go_num,by rw [←HT.out,HK.out,HD.out,trimL_snoc0]⟩
      case measure=>simp [intOf]<;>omega
    | succ d =>
      rw [hd] at g
      have HD:=hid hd;clear hd
      have e0:(((d+1:Nat):Int) == 0)=false:=by simp;omega
      go_wp2
      go_ret
      exact ⟨n+1,by first|rfl|(push_cast;rfl),by omega,by rw [←HT.out,HK.out,HD.out,trimL_snoc _ (by omega)],rfl⟩
def sgn (x y:Nat):Int:=if x<y then -1 else if y<x then 1 else 0
def sgnI (x y:Int):Int:=if x<y then -1 else if y<x then 1 else 0
theorem sgnI_lt {x y:Int} (h:x<y):sgnI x y = -1:=by unfold sgnI;rw [if_pos h]
theorem sgnI_gt {x y:Int} (h:y<x):sgnI x y=1:=by unfold sgnI;rw [if_neg (by omega),if_pos h]
theorem sgnI_eq {x y:Int} (h:x=y):sgnI x y=0:=by unfold sgnI;rw [if_neg (by omega),if_neg (by omega)]
theorem sgn_lt {x y:Nat} (h:x<y):sgn x y = -1:=by unfold sgn;rw [if_pos h]
theorem sgn_gt {x y:Nat} (h:y<x):sgn x y=1:=by unfold sgn;rw [if_neg (by omega),if_pos h]
theorem sgn_eq {x y:Nat} (h:x=y):sgn x y=0:=by unfold sgn;rw [if_neg (by omega),if_neg (by omega)]
set_option maxHeartbeats 400000 in
theorem cmpInt_calls (x y:Int) (w:World) :
 Calls Tryz.prog 230 #[.int .i64 x,.int .i64 y] w fun e w'=>e=.returned (.int .i64 (sgnI x y))∧w'=w:=by
 by_cases h1:x<y
 ·have d1:decide (x<y)=true:=decide_eq_true h1
  go_enter Tryz.func230,Tryz.ntmps230
  go_wp2
  go_ret
  exact ⟨by rw [sgnI_lt h1];rfl,rfl⟩
 ·have d1:decide (x<y)=false:=decide_eq_false h1
  by_cases h2:y<x
  ·have d2:decide (y<x)=true:=decide_eq_true h2
   go_enter Tryz.func230,Tryz.ntmps230
   go_wp2
   go_ret
   exact ⟨by rw [sgnI_gt h2];rfl,rfl⟩
  ·have d2:decide (y<x)=false:=decide_eq_false h2
   go_enter Tryz.func230,Tryz.ntmps230
   go_wp2
   go_ret
   exact ⟨by rw [sgnI_eq (by omega)];rfl,rfl⟩
set_option maxHeartbeats 400000 in
theorem cmpU32_calls (x y:Nat) (w:World) :
 Calls Tryz.prog 231 #[.int .u32 x,.int .u32 y] w fun e w'=>e=.returned (.int .i64 (sgn x y))∧w'=w:=by
 by_cases h1:x<y
 ·have d1:decide ((x:Int)<y)=true:=decide_eq_true (by omega)
  go_enter Tryz.func231,Tryz.ntmps231
  go_wp2
  go_ret
  exact ⟨by rw [sgn_lt h1];rfl,rfl⟩
 ·have d1:decide ((x:Int)<y)=false:=decide_eq_false (by omega)
  by_cases h2:y<x
  ·have d2:decide ((y:Int)<x)=true:=decide_eq_true (by omega)
   go_enter Tryz.func231,Tryz.ntmps231
   go_wp2
   go_ret
   exact ⟨by rw [sgn_gt h2];rfl,rfl⟩
  ·have d2:decide ((y:Int)<x)=false:=decide_eq_false (by omega)
   go_enter Tryz.func231,Tryz.ntmps231
   go_wp2
   go_ret
   exact ⟨by rw [sgn_eq (by omega)];rfl,rfl⟩
theorem cmpU32_q (x y:Nat) (w:World) (n m:Nat) :
 Calls Tryz.prog 231 #[.int .u32 x,.int .u32 y] (w.drewN (n+m)) fun e w'=>e=.returned (.int .i64 (sgn x y))∧∃ m,w'=w.drewN (n+m) :=
 (cmpU32_calls x y _).mono fun e w' ⟨he,hw⟩=>⟨he,m,hw⟩
theorem nthd_eq_drop {a b:List Nat} {i:Nat} (ha:i<a.length) (hb:i<b.length) (h:nthd a i=nthd b i) (hd:a.drop (i+1)=b.drop (i+1)):a.drop i=b.drop i:=by
 rw [drop_nthd ha,drop_nthd hb,h,hd]
set_option maxHeartbeats 1000000 in
theorem compare_calls (A B:Option Addr) (ca cb:Nat) (n m:Nat) (w:World) (hn:(digits n).length≤maxLen) (hm:(digits m).length≤maxLen) (hA:Wds w A (digits n)) (hB:Wds w B (digits m)) :
 Calls Tryz.prog 208 #[.slice A (digits n).length ca,.slice B (digits m).length cb] w fun e w'=>e=.returned (.int .i64 (sgn n m))∧∃ k,w'=w.drewN k:=by
 unfold maxLen at hn hm
 by_cases hl:(digits n).length<(digits m).length
 ·have hlt:=digits_len_lt hl
  go_enter Tryz.func208,Tryz.ntmps208
  go_wp2_with fail
  refine (cmpInt_calls _ _ _).mono ?_;rw [sgnI_lt (by omega)];rintro e w' ⟨rfl,rfl⟩
  go_wp2
  go_ret
  exact ⟨by rw [sgn_lt hlt];rfl,0,rfl⟩
 ·by_cases hg:(digits m).length<(digits n).length
  ·have hlt:=digits_len_lt hg
   go_enter Tryz.func208,Tryz.ntmps208
   go_wp2_with fail
   refine (cmpInt_calls _ _ _).mono ?_;rw [sgnI_gt (by omega)];rintro e w' ⟨rfl,rfl⟩
   go_wp2
   go_ret
   exact ⟨by rw [sgn_gt hlt];rfl,0,rfl⟩
  ·have he:(digits n).length=(digits m).length:=by omega
   have HE:=hid he;clear he
   go_enter Tryz.func208,Tryz.ntmps208
   go_wp2_with fail
   refine (cmpInt_calls _ _ _).mono ?_;rw [sgnI_eq (by omega)];rintro e w' ⟨rfl,rfl⟩
   go_wp2
   go_loopw [6] (fun i wr=>∃ j k:Nat,j≤(digits n).length∧i=.int .i64 ((j:Int)-1)∧(digits n).drop j=(digits m).drop j∧wr=w'.drewN k) (fun i _=>(intOf i+1).toNat)
   case atStart=>exact ⟨(digits n).length,0,Nat.le_refl _,rfl,by rw [List.drop_length,HE.out,List.drop_length],rfl⟩
   case round =>
    obtain ⟨j,k,hj,rfl,hdr,rfl⟩:=hrel
    have HD:=hid hdr;clear hdr
    cases j with
    | zero =>
      rw [show ((0:Nat):Int)-1 = -1 from rfl]
      have hnm:n=m:=by
       have:=HD.out
       rw [List.drop_zero,List.drop_zero] at this
       rw [←val_digits n,this,val_digits]
      have HN:=hid hnm;clear hnm
      go_wp2
      go_ret
      exact ⟨by rw [sgn_eq HN.out];rfl,_,rfl⟩
    | succ j =>
      rw [show ((j+1:Nat):Int)-1=j from by omega]
      obtain ⟨b1,o1,rfl,g1⟩:=hA j (by omega)
      obtain ⟨b2,o2,rfl,g2⟩:=hB j (by have:=HE.out;omega)
      have hj0:(0:Int)≤j:=by omega
      have hj1:(j:Int)<(digits n).length:=by omega
      have hj2:(j:Int)<(digits m).length:=by have:=HE.out;omega
      by_cases hq:nthd (digits n) j=nthd (digits m) j
      ·have q1:((nthd (digits n) j:Int) != (nthd (digits m) j:Int))=false:=by simp;omega
       have HQ:=hid hq;clear hq
       go_wp2_with fail
       go_quiet (fail)
       go_wp2
       go_roundw
       case rel=>exact ⟨j,_,by omega,rfl,nthd_eq_drop (by omega) (by have:=HE.out;omega) HQ.out HD.out,by first|rfl|exact drewN_add _ _ _⟩
       case measure=>simp [intOf]
      ·have q1:((nthd (digits n) j:Int) != (nthd (digits m) j:Int))=true:=by simp;omega
       have hs:sgn (nthd (digits n) j) (nthd (digits m) j)=sgn n m:=by
        by_cases hlt:nthd (digits n) j<nthd (digits m) j
        ·have:=val_lt_of (digits_dig n) HE.out (by omega) HD.out hlt
         rw [val_digits,val_digits] at this
         rw [sgn_lt hlt,sgn_lt this]
        ·have:=val_lt_of (digits_dig m) HE.out.symm (by have:=HE.out;omega) HD.out.symm (by omega:nthd (digits m) j<nthd (digits n) j)
         rw [val_digits,val_digits] at this
         rw [sgn_gt (by omega),sgn_gt this]
       have HS:=hid hs;clear hs hq
       go_wp2_with fail
       go_quiet (fail)
       go_wp2_with fail
       go_quiet ((go_at_call 231;exact cmpU32_q _ _ _ _ _))
       go_wp2
       go_ret
       exact ⟨by rw [HS.out];rfl,_,by first|rfl|simp [drewN_add];rfl⟩
end
end Go.Proofs.YtkljafmdbajfeaaGreatDoor
