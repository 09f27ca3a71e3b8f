/- What a slice of ints, of rows, reads as in memory; how such readings outlive a call that only makes memory. Plain lemmas, no function of the program. -/
import Derived.Test.YtkljafmdbajfeaaGreatDoorProg
import Derived.WalkKit
import Derived.WalkSpells
import Derived.Deep.QuietTactic
import Derived.BigQuiet
import Derived.Deep.LoopGhost
import Derived.Deep.RegionHeld3
import Derived.Lib.Hide
import Derived.Deep.DeepCutAuto
import Derived.Deep.CutBlock
import Derived.Deep.Light
import Derived.StillTailTactics
namespace Go.Proofs.YtkljafmdbajfeaaGreatDoor
set_option linter.unusedVariables false
set_option linter.unusedSimpArgs false
section
open Go.RowKit
theorem cell_lt {w:World} {a:Addr} {v:Value} (h:w.cell? a=some v):a.block<w.heap.size:=by
 unfold World.cell? at h
 rcases Nat.lt_or_ge a.block w.heap.size with hl|hl
 ·exact hl
 ·rw [Array.getElem?_eq_none hl] at h;simp at h
def nth (xs:List Int) (i:Nat):Int:=xs.getD i 0
def nrow (l:List (List Int)) (i:Nat):List Int:=l.getD i []
def Ints (w:World) (A:Option Addr) (xs:List Int):Prop :=
 ∀ i,i<xs.length→∃ b off,A=some ⟨b,off,none⟩∧w.cell? ⟨b,off+i,none⟩=some (.int .i64 (nth xs i))
def Grid (w:World) (A:Option Addr) (l:List (List Int)):Prop :=
 ∀ i,i<l.length→∃ b off R c,A=some ⟨b,off,none⟩∧w.cell? ⟨b,off+i,none⟩=some (.slice R (nrow l i).length c)∧(nrow l i).length≤c∧Ints w R (nrow l i)
theorem Ints.ext {w w':World} {A:Option Addr} {xs:List Int} (h:Ints w A xs) (hb:Below w.heap.size w w'):Ints w' A xs:=fun i hi=>by
 obtain ⟨b,off,e,hc⟩:=h i hi
 exact ⟨b,off,e,by rw [hb.cell (cell_lt hc)];exact hc⟩
theorem Grid.ext {w w':World} {A:Option Addr} {l:List (List Int)} (h:Grid w A l) (hb:Below w.heap.size w w'):Grid w' A l:=fun i hi=>by
 obtain ⟨b,off,R,c,e,hc,hl,hr⟩:=h i hi
 exact ⟨b,off,R,c,e,by rw [hb.cell (cell_lt hc)];exact hc,hl,hr.ext hb⟩
theorem Ints.nil (w:World) (A:Option Addr):Ints w A []:=fun i hi=>by simp at hi
theorem drewN_add (w:World) (m n:Nat):(w.drewN m).drewN n=w.drewN (m+n):=by simp [World.drewN,Nat.add_assoc]
theorem drewN_below (w:World) (n:Nat):Below w.heap.size w (w.drewN n):=⟨rfl,rfl,rfl,Nat.le_refl _,fun _ _=>rfl⟩
theorem bcell {W w1:World} (hb:Below W.heap.size W w1):(∀ b o,b<W.heap.size→w1.cell? ⟨b,o,none⟩=W.cell? ⟨b,o,none⟩)∧(∀ b o,b<W.heap.size→w1.frozen? ⟨b,o,none⟩=W.frozen? ⟨b,o,none⟩) :=
 ⟨fun b o h=>hb.cell (p:=⟨b,o,none⟩) h,fun b o h=>hb.frozen (p:=⟨b,o,none⟩) h⟩
theorem ext_trans {a b c:World} (h:Below a.heap.size a b) (k:Below b.heap.size b c):Below a.heap.size a c:=h.trans (k.mono h.size)
theorem nth_lt {xs:List Int} {i:Nat} (h:i<xs.length):nth xs i=xs[i]:=by unfold nth;simp [h]
theorem nth_mem {xs:List Int} {i:Nat} (h:i<xs.length):nth xs i∈xs:=by rw [nth_lt h];exact List.getElem_mem h
theorem nrow_lt {l:List (List Int)} {i:Nat} (h:i<l.length):nrow l i=l[i]:=by unfold nrow;simp [h]
theorem nrow_mem {l:List (List Int)} {i:Nat} (h:i<l.length):nrow l i∈l:=by rw [nrow_lt h];exact List.getElem_mem h
theorem take_nth {xs:List Int} {i:Nat} (h:i<xs.length):xs.take (i+1)=xs.take i ++ [nth xs i]:=by
 rw [List.take_succ_eq_append_getElem h,nth_lt h]
theorem take_nrow {l:List (List Int)} {i:Nat} (h:i<l.length):l.take (i+1)=l.take i ++ [nrow l i]:=by
 rw [List.take_succ_eq_append_getElem h,nrow_lt h]
end
end Go.Proofs.YtkljafmdbajfeaaGreatDoor

namespace Go.Proofs.YtkljafmdbajfeaaGreatDoor.T
def val:List Nat→Nat
 | []=>0
 | d :: ds=>d+10000*val ds
def digits (n:Nat):List Nat:=if h:n=0 then [] else n % 10000 :: digits (n / 10000)
termination_by n
decreasing_by exact Nat.div_lt_self (by omega) (by omega)
def Dig (ds:List Nat):Prop:=∀ d∈ds,d<10000
def trimL:List Nat→List Nat
 | []=>[]
 | d :: ds=>if d=0∧trimL ds=[] then [] else d :: trimL ds
def nthd (ds:List Nat) (i:Nat):Nat:=ds.getD i 0
theorem digits_zero:digits 0=[]:=by unfold digits;simp
theorem digits_pos {n:Nat} (h:n≠0):digits n=n % 10000 :: digits (n / 10000):=by rw [digits,dif_neg h]
theorem digits_nil {n:Nat} (h:digits n=[]):n=0:=by
 by_cases h0:n=0
 ·exact h0
 ·rw [digits_pos h0] at h;simp at h
theorem val_digits:∀ n,val (digits n)=n:=by
 intro n
 induction n using Nat.strongRecOn with
 | _ n ih =>
   by_cases h:n=0
   ·subst h;rw [digits_zero];rfl
   ·rw [digits_pos h,val,ih _ (Nat.div_lt_self (by omega) (by omega))];omega
theorem digits_dig:∀ n,Dig (digits n):=by
 intro n
 induction n using Nat.strongRecOn with
 | _ n ih =>
   by_cases h:n=0
   ·subst h;rw [digits_zero];intro d hd;simp at hd
   ·rw [digits_pos h];intro d hd
    rcases List.mem_cons.1 hd with rfl|hd
    ·exact Nat.mod_lt _ (by omega)
    ·exact ih _ (Nat.div_lt_self (by omega) (by omega)) d hd
theorem trimL_digits:∀ {ds:List Nat},Dig ds→trimL ds=digits (val ds)
 | [],_=>by rw [val,digits_zero];rfl
 | d :: ds,h=>by
   have hd:=h d (by simp)
   have ih:=trimL_digits (ds:=ds) fun x hx=>h x (List.mem_cons_of_mem _ hx)
   rw [trimL,val,ih]
   by_cases h0:d+10000*val ds=0
   ·rw [h0,digits_zero,if_pos ⟨by omega,by rw [show val ds=0 by omega,digits_zero]⟩]
   ·rw [digits_pos h0,if_neg (fun ⟨e1,e2⟩=>h0 (by have:=digits_nil e2;omega))]
    congr 1
    ·omega
    ·congr 1;omega
theorem Dig.nth {ds:List Nat} (h:Dig ds) (i:Nat):nthd ds i<10000:=by
 unfold nthd
 by_cases hi:i<ds.length
 ·rw [List.getD_eq_getElem?_getD,List.getElem?_eq_getElem hi];exact h _ (List.getElem_mem hi)
 ·rw [List.getD_eq_getElem?_getD,List.getElem?_eq_none (by omega)];simp
theorem nthd_lt {ds:List Nat} {i:Nat} (h:i<ds.length):nthd ds i=ds[i]:=by unfold nthd;simp [h]
theorem val_append:∀ (a b:List Nat),val (a ++ b)=val a+10000 ^ a.length*val b
 | [],b=>by simp [val]
 | d :: a,b=>by
   simp only [List.cons_append,val,List.length_cons,val_append a b,Nat.pow_succ,Nat.mul_add]
   rw [Nat.mul_comm (10000 ^ a.length) 10000,Nat.mul_assoc,Nat.add_assoc]
theorem val_lt:∀ {ds:List Nat},Dig ds→val ds<10000 ^ ds.length
 | [],_=>by simp [val]
 | d :: ds,h=>by
   have hd:=h d (by simp)
   have ih:=val_lt (ds:=ds) fun x hx=>h x (List.mem_cons_of_mem _ hx)
   rw [val,List.length_cons,Nat.pow_succ];omega
theorem Dig.take {ds:List Nat} (h:Dig ds) (k:Nat):Dig (ds.take k):=fun d hd=>h d (List.mem_of_mem_take hd)
theorem take_nthd {ds:List Nat} {i:Nat} (h:i<ds.length):ds.take (i+1)=ds.take i ++ [nthd ds i]:=by
 rw [List.take_succ_eq_append_getElem h,nthd_lt h]
theorem drop_nthd {ds:List Nat} {i:Nat} (h:i<ds.length):ds.drop i=nthd ds i :: ds.drop (i+1):=by
 rw [List.drop_eq_getElem_cons h,nthd_lt h]
theorem digits_ge:∀ {n:Nat},n≠0→10000 ^ ((digits n).length-1)≤n:=by
 intro n
 induction n using Nat.strongRecOn with
 | _ n ih =>
   intro h0
   rw [digits_pos h0,List.length_cons,Nat.add_sub_cancel]
   by_cases h1:n / 10000=0
   ·rw [h1,digits_zero];simp;omega
   ·have h2:=ih (n / 10000) (Nat.div_lt_self (by omega) (by omega)) h1
    have hl:0<(digits (n / 10000)).length:=by rw [digits_pos h1];simp
    have e:10000 ^ (digits (n / 10000)).length=10000*10000 ^ ((digits (n / 10000)).length-1):=by
     rw [←Nat.pow_succ',Nat.succ_eq_add_one,Nat.sub_add_cancel hl]
    rw [e]
    have:=Nat.mul_le_mul_left 10000 h2
    omega
theorem digits_len_lt {n m:Nat} (h:(digits n).length<(digits m).length):n<m:=by
 have h1:=val_lt (digits_dig n)
 rw [val_digits] at h1
 have h2:=digits_ge (n:=m) (fun e=>by rw [e,digits_zero] at h;simp at h)
 have h3:10000 ^ (digits n).length≤10000 ^ ((digits m).length-1):=Nat.pow_le_pow_right (by omega) (by omega)
 omega
theorem val_lt_of {a b:List Nat} (ha:Dig a) (hl:a.length=b.length) {i:Nat} (hi:i<a.length) (hd:a.drop (i+1)=b.drop (i+1)) (h:nthd a i<nthd b i):val a<val b:=by
 have ea:val a=val (a.take i)+10000 ^ i*val (a.drop i):=by
  have:=val_append (a.take i) (a.drop i);rw [List.take_append_drop] at this;rw [this,List.length_take,Nat.min_eq_left (by omega)]
 have eb:val b=val (b.take i)+10000 ^ i*val (b.drop i):=by
  have:=val_append (b.take i) (b.drop i);rw [List.take_append_drop] at this;rw [this,List.length_take,Nat.min_eq_left (by omega)]
 have hb:=val_lt (ha.take i)
 rw [List.length_take,Nat.min_eq_left (by omega)] at hb
 rw [ea,eb,drop_nthd hi,drop_nthd (by omega:i<b.length),val,val,hd]
 have:10000 ^ i*(nthd a i+10000*val (b.drop (i+1)))+10000 ^ i≤10000 ^ i*(nthd b i+10000*val (b.drop (i+1))):=by
  rw [←Nat.mul_succ];exact Nat.mul_le_mul_left _ (by omega)
 omega
theorem nthd_cons (d:Nat) (ds:List Nat) (i:Nat):nthd (d :: ds) (i+1)=nthd ds i:=rfl
theorem trim_zero:∀ (ds:List Nat) (i:Nat),(trimL ds).length≤i→nthd ds i=0
 | [],i,_=>by simp [nthd]
 | d :: ds,i,h=>by
   by_cases e:d=0∧trimL ds=[]
   ·cases i with
    | zero=>exact e.1
    | succ i=>rw [nthd_cons];exact trim_zero ds i (by rw [e.2];simp)
   ·rw [trimL,if_neg e] at h
    cases i with
    | zero=>simp at h
    | succ i=>rw [nthd_cons];exact trim_zero ds i (by simpa using h)
theorem trim_last:∀ (ds:List Nat) (m:Nat),(trimL ds).length=m+1→nthd ds m≠0
 | [],m,h=>by simp [trimL] at h
 | d :: ds,m,h=>by
   by_cases e:d=0∧trimL ds=[]
   ·rw [trimL,if_pos e] at h;simp at h
   ·rw [trimL,if_neg e] at h
    simp only [List.length_cons,Nat.add_right_cancel_iff] at h
    cases m with
    | zero =>
      have:trimL ds=[]:=List.length_eq_zero_iff.1 h
      intro e2
      exact e ⟨e2,this⟩
    | succ m=>rw [nthd_cons];exact trim_last ds m h
theorem trim_take:∀ ds:List Nat,ds.take (trimL ds).length=trimL ds
 | []=>rfl
 | d :: ds=>by
   by_cases e:d=0∧trimL ds=[]
   ·rw [trimL,if_pos e];rfl
   ·rw [trimL,if_neg e,List.length_cons,List.take_succ_cons,trim_take ds]
theorem trim_len (ds:List Nat):(trimL ds).length≤ds.length:=by
 have:=congrArg List.length (trim_take ds)
 rw [List.length_take] at this;omega
theorem digits_len {n k:Nat} (h:n<10000 ^ k):(digits n).length≤k:=by
 rcases Nat.lt_or_ge k (digits n).length with h1|h1
 ·have h2:=digits_ge (n:=n) (fun e=>by rw [e,digits_zero] at h1;simp at h1)
  have h3:10000 ^ k≤10000 ^ ((digits n).length-1):=Nat.pow_le_pow_right (by omega) (by omega)
  omega
 ·exact h1
end Go.Proofs.YtkljafmdbajfeaaGreatDoor.T

namespace Go.Proofs.YtkljafmdbajfeaaGreatDoor
set_option linter.unusedVariables false
set_option linter.unusedSimpArgs false
section
def val:List Nat→Nat
 | []=>0
 | d :: ds=>d+4294967296*val ds
def digits (n:Nat):List Nat:=if h:n=0 then [] else n % 4294967296 :: digits (n / 4294967296)
termination_by n
decreasing_by exact Nat.div_lt_self (by omega) (by omega)
def Dig (ds:List Nat):Prop:=∀ d∈ds,d<4294967296
def trimL:List Nat→List Nat
 | []=>[]
 | d :: ds=>if d=0∧trimL ds=[] then [] else d :: trimL ds
def nthd (ds:List Nat) (i:Nat):Nat:=ds.getD i 0
theorem digits_zero:digits 0=[]:=by unfold digits;simp
theorem digits_pos {n:Nat} (h:n≠0):digits n=n % 4294967296 :: digits (n / 4294967296):=by rw [digits,dif_neg h]
theorem digits_nil {n:Nat} (h:digits n=[]):n=0:=by
 by_cases h0:n=0
 ·exact h0
 ·rw [digits_pos h0] at h;simp at h
theorem val_digits:∀ n,val (digits n)=n:=by
 intro n
 induction n using Nat.strongRecOn with
 | _ n ih =>
   by_cases h:n=0
   ·subst h;rw [digits_zero];rfl
   ·rw [digits_pos h,val,ih _ (Nat.div_lt_self (by omega) (by omega))];omega
theorem digits_dig:∀ n,Dig (digits n):=by
 intro n
 induction n using Nat.strongRecOn with
 | _ n ih =>
   by_cases h:n=0
   ·subst h;rw [digits_zero];intro d hd;simp at hd
   ·rw [digits_pos h];intro d hd
    rcases List.mem_cons.1 hd with rfl|hd
    ·exact Nat.mod_lt _ (by omega)
    ·exact ih _ (Nat.div_lt_self (by omega) (by omega)) d hd
theorem trimL_digits:∀ {ds:List Nat},Dig ds→trimL ds=digits (val ds)
 | [],_=>by rw [val,digits_zero];rfl
 | d :: ds,h=>by
   have hd:=h d (by simp)
   have ih:=trimL_digits (ds:=ds) fun x hx=>h x (List.mem_cons_of_mem _ hx)
   rw [trimL,val,ih]
   by_cases h0:d+4294967296*val ds=0
   ·rw [h0,digits_zero,if_pos ⟨by omega,by rw [show val ds=0 by omega,digits_zero]⟩]
   ·rw [digits_pos h0,if_neg (fun ⟨e1,e2⟩=>h0 (by have:=digits_nil e2;omega))]
    congr 1
    ·omega
    ·congr 1;omega
theorem Dig.nth {ds:List Nat} (h:Dig ds) (i:Nat):nthd ds i<4294967296:=by
 unfold nthd
 by_cases hi:i<ds.length
 ·rw [List.getD_eq_getElem?_getD,List.getElem?_eq_getElem hi];exact h _ (List.getElem_mem hi)
 ·rw [List.getD_eq_getElem?_getD,List.getElem?_eq_none (by omega)];simp
theorem nthd_lt {ds:List Nat} {i:Nat} (h:i<ds.length):nthd ds i=ds[i]:=by unfold nthd;simp [h]
theorem val_append:∀ (a b:List Nat),val (a ++ b)=val a+4294967296 ^ a.length*val b
 | [],b=>by simp [val]
 | d :: a,b=>by
   simp only [List.cons_append,val,List.length_cons,val_append a b,Nat.pow_succ,Nat.mul_add]
   rw [Nat.mul_comm (4294967296 ^ a.length) 4294967296,Nat.mul_assoc,Nat.add_assoc]
theorem val_lt:∀ {ds:List Nat},Dig ds→val ds<4294967296 ^ ds.length
 | [],_=>by simp [val]
 | d :: ds,h=>by
   have hd:=h d (by simp)
   have ih:=val_lt (ds:=ds) fun x hx=>h x (List.mem_cons_of_mem _ hx)
   rw [val,List.length_cons,Nat.pow_succ];omega
theorem Dig.take {ds:List Nat} (h:Dig ds) (k:Nat):Dig (ds.take k):=fun d hd=>h d (List.mem_of_mem_take hd)
theorem Dig.drop {ds:List Nat} (h:Dig ds) (k:Nat):Dig (ds.drop k):=fun d hd=>h d (List.mem_of_mem_drop hd)
theorem take_nthd {ds:List Nat} {i:Nat} (h:i<ds.length):ds.take (i+1)=ds.take i ++ [nthd ds i]:=by
 rw [List.take_succ_eq_append_getElem h,nthd_lt h]
theorem drop_nthd {ds:List Nat} {i:Nat} (h:i<ds.length):ds.drop i=nthd ds i :: ds.drop (i+1):=by
 rw [List.drop_eq_getElem_cons h,nthd_lt h]
theorem digits_ge:∀ {n:Nat},n≠0→4294967296 ^ ((digits n).length-1)≤n:=by
 intro n
 induction n using Nat.strongRecOn with
 | _ n ih =>
   intro h0
   rw [digits_pos h0,List.length_cons,Nat.add_sub_cancel]
   by_cases h1:n / 4294967296=0
   ·rw [h1,digits_zero];simp;omega
   ·have h2:=ih (n / 4294967296) (Nat.div_lt_self (by omega) (by omega)) h1
    have hl:0<(digits (n / 4294967296)).length:=by rw [digits_pos h1];simp
    have e:4294967296 ^ (digits (n / 4294967296)).length=4294967296*4294967296 ^ ((digits (n / 4294967296)).length-1):=by
     rw [←Nat.pow_succ',Nat.succ_eq_add_one,Nat.sub_add_cancel hl]
    rw [e]
    have:=Nat.mul_le_mul_left 4294967296 h2
    omega
theorem digits_len_lt {n m:Nat} (h:(digits n).length<(digits m).length):n<m:=by
 have h1:=val_lt (digits_dig n)
 rw [val_digits] at h1
 have h2:=digits_ge (n:=m) (fun e=>by rw [e,digits_zero] at h;simp at h)
 have h3:4294967296 ^ (digits n).length≤4294967296 ^ ((digits m).length-1):=Nat.pow_le_pow_right (by omega) (by omega)
 omega
theorem val_lt_of {a b:List Nat} (ha:Dig a) (hl:a.length=b.length) {i:Nat} (hi:i<a.length) (hd:a.drop (i+1)=b.drop (i+1)) (h:nthd a i<nthd b i):val a<val b:=by
 have ea:val a=val (a.take i)+4294967296 ^ i*val (a.drop i):=by
  have:=val_append (a.take i) (a.drop i);rw [List.take_append_drop] at this;rw [this,List.length_take,Nat.min_eq_left (by omega)]
 have eb:val b=val (b.take i)+4294967296 ^ i*val (b.drop i):=by
  have:=val_append (b.take i) (b.drop i);rw [List.take_append_drop] at this;rw [this,List.length_take,Nat.min_eq_left (by omega)]
 have hb:=val_lt (ha.take i)
 rw [List.length_take,Nat.min_eq_left (by omega)] at hb
 rw [ea,eb,drop_nthd hi,drop_nthd (by omega:i<b.length),val,val,hd]
 have:4294967296 ^ i*(nthd a i+4294967296*val (b.drop (i+1)))+4294967296 ^ i≤4294967296 ^ i*(nthd b i+4294967296*val (b.drop (i+1))):=by
  rw [←Nat.mul_succ];exact Nat.mul_le_mul_left _ (by omega)
 omega
end
section
open Go.RowKit
def Blk (w:World) (b:Nat) (vs:List Value) (T:TypeId):Prop:=w.heap[b]? = some (.cells vs.toArray T (0,0))
def IBlk (w:World) (b:Nat) (xs:List Int):Prop:=Blk w b (xs.map (Value.int .i64)) 3
theorem Blk.lt {w:World} {b:Nat} {vs:List Value} {T:TypeId} (h:Blk w b vs T):b<w.heap.size:=lt_of_block h
theorem Blk.cell {w:World} {b:Nat} {vs:List Value} {T:TypeId} (h:Blk w b vs T) (i:Nat) (hi:i<vs.length):w.cell? ⟨b,i,none⟩=some vs[i]:=by
 unfold Blk at h;simp [World.cell?,h,hi]
theorem Blk.free {w:World} {b:Nat} {vs:List Value} {T:TypeId} (h:Blk w b vs T) (i:Nat):w.frozen? ⟨b,i,none⟩=false:=by
 unfold Blk at h;simp [World.frozen?,h]
theorem Blk.set {w:World} {b:Nat} {vs:List Value} {T:TypeId} (h:Blk w b vs T) (i:Nat) (v:Value):Blk (w.setCell ⟨b,i,none⟩ v) b (vs.set i v) T:=by
 have hlt:=h.lt
 unfold Blk at *
 have h':w.heap[b]=.cells vs.toArray T (0,0):=by simpa [Array.getElem?_eq_getElem hlt] using h
 show (w.heap.modify b _)[b]? = _
 rw [Array.getElem?_eq_getElem (by simpa using hlt),Array.getElem_modify_self,h']
 simp
theorem Blk.other {w:World} {b:Nat} {vs:List Value} {T:TypeId} (h:Blk w b vs T) (a:Addr) (v:Value) (hb:b≠a.block):Blk (w.setCell a v) b vs T:=by
 unfold Blk at *;rw [Below.heap_setCell _ _ _ _ hb];exact h
theorem Blk.below {w w':World} {b B:Nat} {vs:List Value} {T:TypeId} (h:Blk w b vs T) (hb:Below B w w') (hB:b<B):Blk w' b vs T:=by
 unfold Blk at *;rw [hb.block b hB];exact h
theorem Blk.ext {w w':World} {b:Nat} {vs:List Value} {T:TypeId} (h:Blk w b vs T) (hb:Below w.heap.size w w'):Blk w' b vs T:=h.below hb h.lt
theorem Blk.alloc {w:World} {b:Nat} {vs:List Value} {T:TypeId} (h:Blk w b vs T) (o:Obj):Blk (w.alloc o) b vs T:=h.ext ((Below.refl _ _).alloc (Nat.le_refl _) _)
theorem Blk.new (w:World) (vs:List Value) (T:TypeId):Blk (w.alloc (.cells vs.toArray T (0,0))) w.heap.size vs T:=by
 exact heap_alloc_new _ _
theorem Blk.new' (w:World) (vs:List Value) (T:TypeId) (b:Nat) (h:w.heap.size=b):Blk (w.alloc (.cells vs.toArray T (0,0))) b vs T:=by subst h;exact Blk.new _ _ _
theorem Blk.drewN {w:World} {b:Nat} {vs:List Value} {T:TypeId} (h:Blk w b vs T) (n:Nat):Blk (w.drewN n) b vs T:=h
theorem IBlk.cell {w:World} {b:Nat} {xs:List Int} (h:IBlk w b xs) (i:Nat) (hi:i<xs.length):w.cell? ⟨b,i,none⟩=some (.int .i64 (nth xs i)):=by
 rw [Blk.cell h i (by simpa using hi)];simp [nth_lt hi]
theorem IBlk.set {w:World} {b:Nat} {xs:List Int} (h:IBlk w b xs) (i:Nat) (v:Int):IBlk (w.setCell ⟨b,i,none⟩ (.int .i64 v)) b (xs.set i v):=by
 have:=Blk.set h i (.int .i64 v);unfold IBlk;rw [List.map_set];exact this
theorem IBlk.ints {w:World} {b:Nat} {xs:List Int} (h:IBlk w b xs):Ints w (some ⟨b,0,none⟩) xs:=fun i hi=>⟨b,0,rfl,by rw [Nat.zero_add];exact h.cell i hi⟩
def zeros (n:Nat):List Int:=List.replicate n 0
theorem nth_zeros (n i:Nat):nth (zeros n) i=0:=by unfold nth zeros;simp [List.getElem?_replicate];split<;>rfl
theorem infoInt:(Tryz.prog.info? 3).map (fun i=>(i.zero,i.size,i.bytes))=some (some (.int .i64 0),1,8):=by kernel_rfl
theorem madeZeros (n:Nat):madeCells (Value.int .i64 0).cells n=((zeros n).map (Value.int .i64)).toArray:=by
 unfold madeCells zeros
 apply Array.ext
 ·simp
 ·intro j h1 h2;simp [Value.cells,Nat.mod_one]
theorem run_makeInts (w:World) (n:Nat) (h:n≤35184372088832) :
 (Instr.makeSlice 23 (.int .i64 n) (.int .i64 n)).run Tryz.prog w=.ok (.slice (some ⟨w.heap.size,0,none⟩) n n) (w.alloc (.cells ((zeros n).map (Value.int .i64)).toArray 3 (0,0))):=by
 obtain ⟨i,hi,hz,hs,hb⟩:=info_parts infoInt
 rw [run_make w 23 3 i (.int .i64 0) Tryz.underlying23 hi hz .i64 .i64 n n (by omega) (by omega) (by rw [hb];omega) (by omega)]
 simp only [Int.toNat_natCast,hs,Nat.mul_one]
 rw [madeZeros]
theorem IBlk.made (w:World) (n:Nat):IBlk (w.alloc (.cells ((zeros n).map (Value.int .i64)).toArray 3 (0,0))) w.heap.size (zeros n):=Blk.new _ _ _
theorem IBlk.alloc {w:World} {b:Nat} {xs:List Int} (h:IBlk w b xs) (o:Obj):IBlk (w.alloc o) b xs:=Blk.alloc h o
structure But (b:Nat) (w w':World):Prop where
 os:w'.os=w.os
 tape:w'.tape=w.tape
 output:w'.output=w.output
 size:w.heap.size≤w'.heap.size
 block:∀ k,k<w.heap.size→k≠b→w'.heap[k]? = w.heap[k]?
theorem But.refl (b:Nat) (w:World):But b w w:=⟨rfl,rfl,rfl,Nat.le_refl _,fun _ _ _=>rfl⟩
theorem But.ext {b:Nat} {w w' w'':World} (h:But b w w') (k:Below w'.heap.size w' w''):But b w w'' :=
 ⟨k.os.trans h.os,k.tape.trans h.tape,k.output.trans h.output,Nat.le_trans h.size k.size,fun i hi hb=>(k.block i (Nat.lt_of_lt_of_le hi h.size)).trans (h.block i hi hb)⟩
theorem But.trans {b:Nat} {w w' w'':World} (h:But b w w') (k:But b w' w''):But b w w'' :=
 ⟨k.os.trans h.os,k.tape.trans h.tape,k.output.trans h.output,Nat.le_trans h.size k.size,fun i hi hb=>(k.block i (Nat.lt_of_lt_of_le hi h.size) hb).trans (h.block i hi hb)⟩
theorem But.alloc {b:Nat} {w w':World} (h:But b w w') (o:Obj):But b w (w'.alloc o):=h.ext ((Below.refl _ _).alloc (Nat.le_refl _) _)
theorem But.set {b:Nat} {w w':World} (h:But b w w') (i:Nat) (v:Value):But b w (w'.setCell ⟨b,i,none⟩ v) :=
 ⟨h.os,h.tape,h.output,by simpa using h.size,fun k hk hb=>by rw [Below.heap_setCell _ _ _ _ hb];exact h.block k hk hb⟩
theorem But.setNew {b:Nat} {w w':World} (h:But b w w') {a:Addr} (ha:w.heap.size≤a.block) (v:Value):But b w (w'.setCell a v) :=
 ⟨h.os,h.tape,h.output,by simpa using h.size,fun k hk hb=>by rw [Below.heap_setCell _ _ _ _ (by omega)];exact h.block k hk hb⟩
theorem But.below {b B:Nat} {w w':World} (h:But b w w') (hB:B≤b) (hs:B≤w.heap.size):Below B w w' :=
 ⟨h.os,h.tape,h.output,h.size,fun k hk=>h.block k (by omega) (by omega)⟩
theorem But.grown {w w0 w':World} (h:But w.heap.size w0 w') (hs:w.heap.size≤w0.heap.size) (hb:Below w.heap.size w w0):Below w.heap.size w w':=hb.trans (h.below (Nat.le_refl _) hs)
theorem Blk.but {w w':World} {b b':Nat} {vs:List Value} {T:TypeId} (h:Blk w b vs T) (hb:But b' w w') (hne:b≠b'):Blk w' b vs T:=by
 have:=h.lt
 unfold Blk at *;rw [hb.block b this hne];exact h
end
section
open Go.RowKit
variable {S:Nat→Prop} {w w' w'':World}
end
end Go.Proofs.YtkljafmdbajfeaaGreatDoor
