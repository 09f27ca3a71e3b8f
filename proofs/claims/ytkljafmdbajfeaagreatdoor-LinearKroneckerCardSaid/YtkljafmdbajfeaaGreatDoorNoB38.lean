/- linear.Minimum, Dual, Farkas, Ray. -/
import Derived.Test.YtkljafmdbajfeaaGreatDoorNoB06
import Derived.Test.YtkljafmdbajfeaaGreatDoorNoB07
import Derived.Test.YtkljafmdbajfeaaGreatDoorNoB09
import Derived.Test.YtkljafmdbajfeaaGreatDoorNoB10
import Derived.Test.YtkljafmdbajfeaaGreatDoorNoB23
import Derived.Test.YtkljafmdbajfeaaGreatDoorNoB25
import Derived.Test.YtkljafmdbajfeaaGreatDoorNoB37
namespace Go.Proofs.YtkljafmdbajfeaaGreatDoor
set_option linter.unusedVariables false
set_option linter.unusedSimpArgs false
open Go.Lib (hid)
section
open Go.RowKit Go.ChangeMaps
structure TabOk (g:Nat) (o:Nat→Int) (w:World):Prop where
 c0:w.cell? ⟨g,0,none⟩=some (.int .i64 (o 0))
 c1:w.cell? ⟨g,1,none⟩=some (.int .i64 (o 1))
 c2:w.cell? ⟨g,2,none⟩=some (.int .i64 (o 2))
theorem TabOk.ext {g:Nat} {o:Nat→Int} {w w':World} (h:TabOk g o w) (hb:Below w.heap.size w w'):TabOk g o w':=by
 have hc:∀ k x,w.cell? ⟨g,k,none⟩=some x→w'.cell? ⟨g,k,none⟩=some x:=fun k x e=>(hb.cell (p:=⟨g,k,none⟩) (cell_lt e)).trans e
 exact ⟨hc _ _ h.c0,hc _ _ h.c1,hc _ _ h.c2⟩
def costsO (s:Nat):Int:=if s=0 then 0 else if s=1 then 10 else 11
theorem enter_at {f:FuncId} {fn:Func} {c:Code} (hf:Tryz.prog.funcs[f]? = some fn) (hname:(fn.name == "runtime.NumGoroutine")=false) (hb:fn.body=some c) (args:Array Value) (w:World):(callFunc f args).run Tryz.prog w=.ok (.enter f args) w:=by
 have h1:fn.name≠"runtime.NumGoroutine":=by simpa using hname
 simp [callFunc,hf,h1,hb]
set_option maxRecDepth 100000 in
set_option maxHeartbeats 1000000 in
theorem minimum_take (W:World) (s:Value) (A1:Option Addr) (n1 c1:Nat) (A2:Option Addr) (n2 c2:Nat):Calls Tryz.prog 64 #[.agg #[s,.slice A1 n1 c1,.slice A2 n2 c2]] W fun e w'=>e=.returned (if true then .slice A1 n1 c1 else .slice A2 n2 c2)∧Below W.heap.size W w':=by
 have hb:=Blk.new W [s,.slice A1 n1 c1,.slice A2 n2 c2] 84
 have q1:=hb.cell 1 (by simp)
 simp only [List.getElem_cons_zero,List.getElem_cons_succ] at q1
 have hA:Below W.heap.size W (W.alloc (.cells #[s,.slice A1 n1 c1,.slice A2 n2 c2] 84 (0,0))):=(Below.refl _ _).alloc (Nat.le_refl _) _
 have HA:=hid hA
 clear hb hA
 go_enter Tryz.func64,Tryz.ntmps64
 go_wp2
 go_ret
 exact ⟨rfl,HA.out⟩
set_option maxRecDepth 100000 in
set_option maxHeartbeats 2000000 in
theorem minimum_calls (A B C:Option Addr) (ca cb cc:Nat) (a:List (List Int)) (b c:List Int) (w:World) (h:Prog3 w A B C a b c) (hc:TabOk 0 costsO w) :
 Calls Tryz.prog 16 #[.agg #[.slice A a.length ca,.slice B b.length cb,.slice C c.length cc]] w fun e w'=>OfPost a b c 0 costsO true w w' e∧Below w.heap.size w w':=by
 have hb0:Below w.heap.size w (w.alloc (.cells #[.slice A a.length ca,.slice B b.length cb,.slice C c.length cc] 25 (0,0))):=(Below.refl _ _).alloc (Nat.le_refl _) _
 have hb1:Below w.heap.size w ((w.alloc (.cells #[.slice A a.length ca,.slice B b.length cb,.slice C c.length cc] 25 (0,0))).alloc (.cells #[.slice none 0 0,.int .i64 0] 29 (0,0))):=hb0.alloc (by simp) _
 have bk:=Blk.new (w.alloc (.cells #[.slice A a.length ca,.slice B b.length cb,.slice C c.length cc] 25 (0,0))) [.slice none 0 0,.int .i64 0] 29
 have hsz:(w.alloc (.cells #[.slice A a.length ca,.slice B b.length cb,.slice C c.length cc] 25 (0,0))).heap.size=w.heap.size+1:=by simp
 rw [hsz] at bk
 clear hsz
 obtain ⟨g0,g1,g2⟩:=hc.ext hb1
 have HOF:=hid (of_any A B C ca cb cc a b c 0 costsO true 64 _ (h.ext hb1) (by omega) (by intro h;first|decide|cases h) (by intro h;first|decide|cases h) (enter_at Tryz.func64 (by kernel_rfl) rfl) minimum_take)
 have HB1:=hid hb1;have HBK:=hid bk
 clear hb0 hb1 bk h hc
 go_enter Tryz.func16,Tryz.ntmps16
 go_wp2_with fail
 refine HOF.out.mono ?_;rintro e w2 ⟨hpost,hb2⟩
 have bl2:=HBK.out.ext hb2
 obtain ⟨rp,hrp⟩:∃ rp,w.heap.size+1=rp:=⟨_,rfl⟩
 rw [hrp] at bl2 ⊢
 have hB2:=HB1.out.trans (hb2.mono HB1.out.size)
 have hrl:=HBK.out.lt
 have hsz:=hb2.size
 have c0:=bl2.cell 0 (by simp)
 have c1:=bl2.cell 1 (by simp)
 have f0:=bl2.free 0
 have f1:=bl2.free 1
 simp only [List.getElem_cons_zero,List.getElem_cons_succ] at c0 c1
 obtain ⟨PA,PN,PC,d,k,rfl,hfin⟩:∃ (PA:Option Addr) (PN PC:Nat) (d k:Int),e=.returned (.tuple #[.agg #[.slice PA PN PC,.int .i64 d],.int .i64 k])∧OfPost a b c 0 costsO true w ((w2.setCell ⟨rp,0,none⟩ (.slice PA PN PC)).setCell ⟨rp,1,none⟩ (.int .i64 d)) e:=by
  rcases hpost with ⟨h1,h2⟩|⟨h1,s,x,y,h3,h4,h5⟩
  ·exact ⟨none,0,0,0,2,h2,.inl ⟨h1,h2⟩⟩
  ·rcases h5 with ⟨h5,h6⟩|⟨h5,g,xs,d,h6,h7,h8,h9⟩
   ·exact ⟨none,0,0,0,_,h6,.inr ⟨h1,s,x,y,h3,h4,.inl ⟨h5,h6⟩⟩⟩
   ·refine ⟨_,_,_,d,0,h6,.inr ⟨h1,s,x,y,h3,h4,.inr ⟨h5,g,xs,d,h6,Nat.le_trans HB1.out.size h7,h8.but (((But.refl rp w2).set 0 _).set 1 _) (by omega),h9⟩⟩⟩
 have bl3:=(bl2.set 0 (.slice PA PN PC)).set 1 (.int .i64 d)
 have q0:=bl3.cell 0 (by simp)
 have q1:=bl3.cell 1 (by simp)
 simp only [List.getElem_cons_zero,List.getElem_cons_succ,List.set_cons_zero,List.set_cons_succ] at q0 q1
 have HBF:=hid ((hB2.setCell (p:=⟨rp,0,none⟩) (by show _≤rp;omega) (.slice PA PN PC)).setCell (p:=⟨rp,1,none⟩) (by show _≤rp;omega) (.int .i64 d))
 have HFN:=hid hfin
 clear hpost hb2 bl2 bl3 hB2 hfin HOF HBK hrl hsz hrp
 go_wp2
 (try simp only [Exit.inBlock,Exit.then])
 refine bodyPost_ret (v:=.tuple #[.agg #[.slice PA PN PC,.int .i64 d],.int .i64 k]) (by simp [results,Tryz.results16,go_sem,q0,q1]) rfl ⟨HFN.out,HBF.out⟩
end
section
open Go.RowKit
theorem all_range_true {n:Nat} {p:Nat→Bool} (h:∀ i,i<n→p i=true):(List.range n).all p=true:=List.all_eq_true.2 fun i hi=>h i (List.mem_range.1 hi)
theorem all_range_false {n i:Nat} {p:Nat→Bool} (hi:i<n) (h:p i=false):(List.range n).all p=false:=by
 cases e:(List.range n).all p with
 | false=>rfl
 | true=>have:=List.all_eq_true.1 e i (List.mem_range.2 hi);rw [h] at this;cases this
end
section
open Go.RowKit
end
section
open Go.RowKit Go.ChangeMaps
def clmTo (a:List (List Int)) (j i:Nat):List Int:=(List.range i).map fun k=>nth (nrow a k) j
def clmOf (a:List (List Int)) (j:Nat):List Int:=clmTo a j a.length
theorem clmTo_len (a:List (List Int)) (j i:Nat):(clmTo a j i).length=i:=by unfold clmTo;simp
theorem clmOf_nth (a:List (List Int)) (j k:Nat) (h:k<a.length):nth (clmOf a j) k=nth (nrow a k) j:=by unfold clmOf clmTo nth;simp [h]
end
section
open Go.RowKit
theorem clmOf_len (a:List (List Int)) (j:Nat):(clmOf a j).length=a.length:=clmTo_len a j a.length
end
section
open Go.RowKit Go.ChangeMaps
def timR (a:List (List Int)) (ys:List Int) (n i j:Nat):List Int:=(List.range n).map fun t=>dotN (clmOf a t) ys (if t<j then i+1 else i)
def timZ (a:List (List Int)) (ys:List Int) (n:Nat):List Int:=(List.range n).map fun t=>dotZ (clmOf a t) ys
theorem timR_len (a:List (List Int)) (ys:List Int) (n i j:Nat):(timR a ys n i j).length=n:=by unfold timR;simp
theorem timZ_len (a:List (List Int)) (ys:List Int) (n:Nat):(timZ a ys n).length=n:=by unfold timZ;simp
theorem timR_zero (a:List (List Int)) (ys:List Int) (n:Nat):timR a ys n 0 0=zeros n:=by
 unfold timR zeros
 apply List.ext_getElem (by simp)
 intro i h1 h2;simp [dotN]
theorem timR_next (a:List (List Int)) (ys:List Int) (n i:Nat):timR a ys n i n=timR a ys n (i+1) 0:=by
 unfold timR
 refine List.map_congr_left fun t ht=>?_
 rw [if_pos (List.mem_range.1 ht),if_neg (Nat.not_lt_zero _)]
theorem timR_end (a:List (List Int)) (ys:List Int) (n:Nat):timR a ys n a.length 0=timZ a ys n:=by
 unfold timR timZ
 refine List.map_congr_left fun t ht=>?_
 unfold dotZ;rw [clmOf_len,if_neg (Nat.not_lt_zero _)]
theorem timR_nth (a:List (List Int)) (ys:List Int) {n i j:Nat} (h:j<n):nth (timR a ys n i j) j=dotN (clmOf a j) ys i:=by unfold timR nth;simp [h]
theorem timR_set (a:List (List Int)) (ys:List Int) {n i j:Nat} (h:j<n):(timR a ys n i j).set j (dotN (clmOf a j) ys (i+1))=timR a ys n i (j+1):=by
 unfold timR
 apply List.ext_getElem (by simp)
 intro t h1 h2
 rw [List.getElem_set]
 simp only [List.getElem_map,List.getElem_range]
 by_cases ht:j=t
 ·subst ht;simp
 ·rw [if_neg ht]
  by_cases h3:t<j
  ·rw [if_pos h3,if_pos (by omega)]
  ·rw [if_neg h3,if_neg (by omega)]
theorem tim_step {a:List (List Int)} {ys:List Int} {i j:Nat} (h:Small (clmOf a j) ys) (hi:i<a.length) :
 IntKind.i64.wrap (nth ys i*nth (nrow a i) j)=nth ys i*nth (nrow a i) j∧IntKind.i64.wrap (dotN (clmOf a j) ys i+nth ys i*nth (nrow a i) j)=dotN (clmOf a j) ys (i+1):=by
 obtain ⟨M,hM,hb⟩:=h
 have hl:=clmOf_len a j
 have hb':=hb
 have h1:=dotN_bound hb' (i+1) (by omega)
 have h2:=hb i (by omega)
 rw [clmOf_nth a j i hi] at h2
 rw [Int.mul_comm] at h2
 have h0:0≤M:=by omega
 have h3:((i+1:Nat):Int)*M≤((clmOf a j).length:Int)*M:=Int.mul_le_mul_of_nonneg_right (by omega) h0
 have h4:1*M≤((clmOf a j).length:Int)*M:=Int.mul_le_mul_of_nonneg_right (by omega) h0
 have e:dotN (clmOf a j) ys (i+1)=dotN (clmOf a j) ys i+nth ys i*nth (nrow a i) j:=by
  simp only [dotN];rw [clmOf_nth a j i hi,Int.mul_comm]
 rw [IntKind.wrap_i64,IntKind.wrap_i64,e]
 rw [e] at h1
 generalize nth ys i*nth (nrow a i) j=p at *
 generalize ((i+1:Nat):Int)*M=q at *
 generalize ((clmOf a j).length:Int)*M=q2 at *
 constructor<;>omega
set_option maxRecDepth 100000 in
set_option maxHeartbeats 2000000 in
theorem timesL_calls (Y A:Option Addr) (cy ca:Nat) (ys:List Int) (a:List (List Int)) (n:Nat) (w:World) (hY:Ints w Y ys) (hA:Grid w A a) (hl:a.length≤ys.length) (hl1:ys.length≤1000) (hn:n≤1000)
 (hr:∀ k,k<a.length→(nrow a k).length=n) (hs:∀ j,j<n→Small (clmOf a j) ys) :
 Calls Tryz.prog 120 #[.slice Y ys.length cy,.slice A a.length ca,.int .i64 n] w fun e w'=>∃ g,e=.returned (.slice (some ⟨g,0,none⟩) n n)∧w.heap.size≤g∧IBlk w' g (timZ a ys n)∧Below w.heap.size w w':=by
 have hmk:=fun w=>run_makeInts w n (by omega)
 have HY:=hid hY;have HG:=hid hA;have HR:=hid hr;have HS:=hid hs
 have H0:Hid (IBlk (w.alloc (.cells ((zeros n).map (Value.int .i64)).toArray 3 (0,0))) w.heap.size (timR a ys n 0 0)):=hid (by rw [timR_zero];exact IBlk.made w n)
 have HA:Hid (Below w.heap.size w (w.alloc (.cells ((zeros n).map (Value.int .i64)).toArray 3 (0,0)))):=hid ((Below.refl _ _).alloc (Nat.le_refl _) _)
 clear hY hA hr hs
 go_enter Tryz.func120,Tryz.ntmps120
 go_wp2_with fail
 go_loopw [15] (fun ti wr=>∃ (i:Nat),i≤a.length∧ti=.int .i64 i∧Hid (IBlk wr w.heap.size (timR a ys n i 0))∧Hid (Below w.heap.size w wr)) (fun ti _=>a.length-(intOf ti).toNat)
 case atStart=>exact ⟨0,Nat.zero_le _,rfl,H0,HA⟩
 case round =>
  obtain ⟨i,hi,rfl,hI,hbe⟩:=hrel
  by_cases hlt:i<a.length
  ·have hi1:(i:Int)<a.length:=by omega
   obtain ⟨bb,o,R,cR,rfl,hrc0,-,hints⟩:=HG.out i hlt
   have hrc:wr.cell? ⟨bb,o+i,none⟩=some (.slice R (nrow a i).length cR):=by rw [hbe.out.cell (cell_lt hrc0)];exact hrc0
   have hrl:=HR.out i hlt
   rw [hrl] at hrc
   obtain ⟨b2,o2,rfl,hyc0⟩:=HY.out i (by omega)
   have hiy:(i:Int)<ys.length:=by omega
   have HYC:=hid hyc0;have HIN:=hid hints
   clear hrc0 hyc0 hints
   go_wp2_with fail
   go_loopw [22] (fun tj wr=>∃ (j:Nat),j≤n∧tj=.int .i64 j∧Hid (IBlk wr w.heap.size (timR a ys n i j))∧Hid (Below w.heap.size w wr)) (fun tj _=>n-(intOf tj).toNat)
   case atStart=>exact ⟨0,Nat.zero_le _,rfl,hI,hbe⟩
   case round =>
    clear hI hbe hrc
    obtain ⟨j,hj,rfl,hI,hbe⟩:=hrel
    by_cases hjl:j<n
    ·have hj1:(j:Int)<n:=by omega
     obtain ⟨b3,o3,rfl,hxc⟩:=(HIN.out.ext hbe.out) j (by omega)
     have hyc:wr.cell? ⟨b2,o2+i,none⟩=some (.int .i64 (nth ys i)):=by rw [hbe.out.cell (cell_lt HYC.out)];exact HYC.out
     have hl:=timR_len a ys n i j
     have g3:=hI.out.cell j (by omega)
     have f3:=Blk.free hI.out j
     obtain ⟨q1,q2⟩:=tim_step (HS.out j hjl) hlt
     have hset:=hI.out.set j (dotN (clmOf a j) ys (i+1))
     rw [timR_set a ys hjl] at hset
     rw [timR_nth a ys hjl] at g3
     obtain ⟨y,hy⟩:∃ y,nth ys i=y:=⟨_,rfl⟩
     obtain ⟨x,hx⟩:∃ x,nth (nrow a i) j=x:=⟨_,rfl⟩
     obtain ⟨s,hsm⟩:∃ s,dotN (clmOf a j) ys i=s:=⟨_,rfl⟩
     obtain ⟨s2,hs2⟩:∃ s2,dotN (clmOf a j) ys (i+1)=s2:=⟨_,rfl⟩
     obtain ⟨p,hp⟩:∃ p,y*x=p:=⟨_,rfl⟩
     rw [hy] at hyc
     rw [hx] at hxc
     rw [hsm] at g3
     rw [hs2] at hset
     rw [hy,hx,hp] at q1
     rw [hy,hx,hp,hsm,hs2] at q2
     have q3:IntKind.i64.wrap (y*x)=p:=by rw [hp];exact q1
     have HST:=hid hset
     clear hset hy hx hsm hs2 hp q1 hl
     go_wp2
     go_still_tail 14,(by kernel_rfl)
     change wpList _ _ _ _ _ wr.drew
     go_wp2
     go_roundw
     case rel=>exact ⟨j+1,by omega,by go_num,HST,hid ((hbe.out.setCell (p:=⟨w.heap.size,j,none⟩) (Nat.le_refl _) _).drew)⟩
     case measure=>simp [intOf];omega
    ·obtain rfl:j=n:=by omega
     rw [timR_next] at hI
     go_wp2
     go_roundw
     case rel=>exact ⟨i+1,by omega,by go_num,hI,hbe⟩
     case measure=>simp [intOf];omega
  ·obtain rfl:i=a.length:=by omega
   rw [timR_end] at hI
   go_wp2
   go_ret
   exact ⟨_,rfl,Nat.le_refl _,hI.out,hbe.out⟩
end
section
open Go.RowKit
end
section
open Go.RowKit
end
section
open Go.RowKit
def fewB (a:List (List Int)) (b:List Int):Bool:=decide (a.length≤30) && ((List.range a.length).all fun i=>decide ((nrow a i).length≤30)) && decide (b.length≤30)
set_option maxHeartbeats 1000000 in
theorem few_calls (A B:Option Addr) (ca cb:Nat) (a:List (List Int)) (b:List Int) (w:World) (hA:Grid w A a) (hl:a.length≤maxLen) (hr:∀ r∈a,r.length≤maxLen) (hb:b.length≤maxLen) :
 Calls Tryz.prog 29 #[.slice A a.length ca,.slice B b.length cb] w fun e w'=>e=.returned (.bool (fewB a b))∧w'=w:=by
 unfold maxLen at hl hb
 have HR:=hid hr
 clear hr
 go_enter Tryz.func29,Tryz.ntmps29
 go_wp2
 go_loop [5] (fun i=>∃ k:Nat,k≤a.length∧i=.int .i64 k∧k≤30∧∀ j,j<k→(nrow a j).length≤30) (fun i=>a.length-(intOf i).toNat)
 case atStart=>exact ⟨0,Nat.zero_le _,rfl,Nat.zero_le _,fun j hj=>by omega⟩
 case round =>
  obtain ⟨k,hk,rfl,h30,hall⟩:=hrel
  have HA:=hid hall;clear hall
  by_cases hlt:k<a.length
  ·obtain ⟨bb,o,R,cR,rfl,hrc,-,-⟩:=hA k hlt
   have hk1:(k:Int)<a.length:=by omega
   have hrl:=HR.out _ (nrow_mem hlt)
   unfold maxLen at hrl
   by_cases h3:k=30
   ·have d3:decide (30≤(k:Int))=true:=decide_eq_true (by omega)
    have H3:=hid h3
    clear h3
    go_wp2
    go_ret
    exact ⟨by have:=H3.out;unfold fewB;rw [decide_eq_false (show ¬ a.length≤30 by omega)];rfl,rfl⟩
   ·have d3:decide (30≤(k:Int))=false:=decide_eq_false (by omega)
    by_cases h4:(nrow a k).length≤30
    ·have d4:decide (30<((nrow a k).length:Int))=false:=decide_eq_false (by omega)
     have H4:=hid h4
     clear h4
     go_wp2
     go_round
     case rel=>exact ⟨k+1,by omega,by go_num,by omega,fun j hj=>if e:j=k then by rw [e];exact H4.out else HA.out j (by omega)⟩
     case measure=>simp [intOf];omega
    ·have d4:decide (30<((nrow a k).length:Int))=true:=decide_eq_true (by omega)
     have H4:=hid h4
     clear h4
     go_wp2
     go_ret
     exact ⟨by unfold fewB;rw [all_range_false hlt (decide_eq_false H4.out),Bool.and_false];rfl,rfl⟩
  ·obtain rfl:k=a.length:=by omega
   have hd:decide ((b.length:Int)≤30)=decide (b.length≤30):=by rw [decide_eq_decide];omega
   have H30:=hid h30;have HD:=hid hd
   clear hd h30
   go_wp2
   go_ret
   exact ⟨by unfold fewB;rw [decide_eq_true H30.out,all_range_true fun i hi=>decide_eq_true (HA.out i hi),←HD.out];rfl,rfl⟩
end
section
open Go.RowKit
end
section
open Go.RowKit
theorem few_bd {x:Int} (h:x.natAbs<100000000000000000000000000000000000000000000000000):Few x:=by
 unfold Few
 refine Nat.le_trans (T.digits_len (k:=13) (Nat.lt_of_lt_of_le h (by decide))) (by decide)
theorem calm_rb (z:Int):Calm NoBlk fun v w=>RB w v z:=⟨fun v w w' h hb=>h.ext hb,fun v w w' p h hp hb=>hp.elim⟩
end
section
open Go.RowKit
theorem cell_set_otherL (w:World) (a b:Nat) (i j:Nat) (x:Value) (h:b≠a):(w.setCell ⟨a,i,none⟩ x).cell? ⟨b,j,none⟩=w.cell? ⟨b,j,none⟩:=by
 simp only [World.cell?];rw [Below.heap_setCell _ _ _ _ h]
theorem RB.put {w:World} {v:Value} {z:Int} (h:RB w v z) {p:Nat} {vs:List Value} {T:TypeId} (hb:Blk w p vs T) (hv:∀ k n,Value.int k n ∉ vs) (i:Nat) (x:Value):RB (w.setCell ⟨p,i,none⟩ x) v z:=by
 obtain ⟨sl,h1,A,c,h2,h3,h4,hR⟩:=h
 refine ⟨sl,h1,A,c,h2,h3,h4,fun j hj=>?_⟩
 obtain ⟨b,off,e,hc⟩:=hR j hj
 have hne:b≠p:=fun e2=>by subst e2;exact hv _ _ (cell_in hb hc)
 exact ⟨b,off,e,by rw [cell_set_otherL _ _ _ _ _ _ hne];exact hc⟩
structure BigAt (w:World) (p:Nat) (z:Int) (q:Bool) (sl:Value):Prop where
 blk:Blk w p [.bool q,sl] 61
 num:RB w (.agg #[.bool q,sl]) z
 sli:∃ A n c,sl=.slice A n c
theorem BigAt.ext {w w':World} {p:Nat} {z:Int} {q:Bool} {sl:Value} (h:BigAt w p z q sl) (hb:Below w.heap.size w w'):BigAt w' p z q sl:=⟨h.blk.ext hb,h.num.ext hb,h.sli⟩
theorem BigAt.noint {w:World} {p:Nat} {z:Int} {q:Bool} {sl:Value} (h:BigAt w p z q sl):∀ k n,Value.int k n ∉ [.bool q,sl]:=fun k n hm=>by
 obtain ⟨A,m,c,rfl⟩:=h.sli;simp at hm
theorem BigAt.put {w:World} {p:Nat} {z y:Int} {q s:Bool} {sl:Value} (h:BigAt w p z q sl) {A:Option Addr} {n c:Nat} (k:RB w (.agg #[.bool s,.slice A n c]) y):BigAt ((w.setCell ⟨p,0,none⟩ (.bool s)).setCell ⟨p,1,none⟩ (.slice A n c)) p y s (.slice A n c):=by
 have h1:Blk (w.setCell ⟨p,0,none⟩ (.bool s)) p [.bool s,sl] 61:=h.blk.set 0 _
 obtain ⟨B,m,d,hsl⟩:=h.sli
 have n1:∀ k n,Value.int k n ∉ [.bool s,sl]:=fun k n hm=>by subst hsl;simp at hm
 exact ⟨h1.set 1 _,(k.put h.blk h.noint 0 _).put h1 n1 1 _,_,_,_,rfl⟩
theorem BigAt.new {w:World} {z:Int} {s:Bool} {A:Option Addr} {n c:Nat} (k:RB w (.agg #[.bool s,.slice A n c]) z):BigAt (w.alloc (.cells #[.bool s,.slice A n c] 61 (0,0))) w.heap.size z s (.slice A n c) :=
 ⟨Blk.new _ _ _,k.ext ((Below.refl _ _).alloc (Nat.le_refl _) _),_,_,_,rfl⟩
end
section
open Go.RowKit Go.ChangeMaps
open Lp (Lt V Ech BdV Bd pivots lv cnt Gen From Least)
theorem wide_gen {X k e j:Nat} (hX:(3*X) ^ e≤4294967296) (h0:0<X) (hk:2 ^ k≤e*j) (hj:j≤100000000) {z:Int} (hz:z.natAbs≤lv X k):Wide z:=by
 have h1:=lv_pow X k
 have h2:(3*X) ^ (2 ^ k)≤(3*X) ^ (e*j):=Nat.pow_le_pow_right (by omega) hk
 rw [Nat.pow_mul] at h2
 have h3:((3*X) ^ e) ^ j≤4294967296 ^ j:=Nat.pow_le_pow_left hX _
 have h4:=Lp.lv_pos h0 k
 have h5:z.natAbs<4294967296 ^ j:=by
  generalize 4294967296 ^ j=B at *
  generalize ((3*X) ^ e) ^ j=C at *
  generalize (3*X) ^ (2 ^ k)=D at *
  omega
 exact Nat.le_trans (big_len h5) hj
theorem wide_27 {k:Nat} (hk:k≤27) {z:Int} (hz:z.natAbs≤lv 30 k):Wide z :=
 wide_gen (e:=4) (j:=33554432) (by decide) (by omega) (Nat.le_trans (Nat.pow_le_pow_right (by omega) hk) (by decide)) (by omega) hz
end
section
open Go.RowKit
open Lp (Lt V Ech pivots Gen From Least Piv fac)
theorem piv_of {n:Nat} {rows:Lt} (hE:Ech n rows):Piv n rows (pivots rows n).length (fun i=>(pivots rows n).getD i 0) fun i=>(rows ((pivots rows n).getD i 0)).getD fun _=>0:=by
 have hget:∀ i,∀ h:i<(pivots rows n).length,(pivots rows n).getD i 0=(pivots rows n)[i]:=fun i h=>by simp [h]
 refine ⟨fun i j hij hj=>?_,fun i hi=>?_,fun q r hq=>?_⟩
 ·rw [hget i (by omega),hget j hj];exact Lp.pivots_lt _ _ hij
 ·have:=(Lp.mem_pivots.1 (List.getElem_mem hi)).2
  rw [hget i hi]
  cases e:rows (pivots rows n)[i] with
  | none=>rw [e] at this;cases this
  | some r=>rfl
 ·have hm:q∈pivots rows n:=Lp.mem_pivots.2 ⟨hE.lt q r hq,by rw [hq];rfl⟩
  obtain ⟨i,hi,e⟩:=List.getElem_of_mem hm
  exact ⟨i,hi,by rw [hget i hi];exact e⟩
theorem mul_cancel_nat {a b c:Nat} (ha:0<a) (h:a*b≤c*a):b≤c:=by
 rw [Nat.mul_comm c a] at h;exact Nat.le_of_mul_le_mul_left h ha
theorem wrap64_big {z:Int} (h:z.natAbs≤4000000000000000000):wrap64 z=z:=by unfold wrap64;omega
theorem intsTo_at {f:V} {n i:Nat} (hi:i<n) (h:(f i).natAbs≤4000000000000000000):nth (intsTo f n n) i=f i:=by
 rw [nth_lt (by rw [intsTo_len];exact hi)]
 unfold intsTo
 simp [hi,wrap64_big h]
theorem nth_ints {f:V} {n:Nat} (hh:∀ i,n≤i→f i=0) (h:∀ i,(f i).natAbs≤4000000000000000000):nth (intsTo f n n)=f:=by
 funext i
 rcases Nat.lt_or_ge i n with h1|h1
 ·exact intsTo_at h1 (h i)
 ·rw [nth_beyond (by rw [intsTo_len];exact h1),hh i h1]
def formL (rows:Lt) (n:Nat):List (List Int):=(rowsOf rows n).map fun f=>intsTo f n n
end
end Go.Proofs.YtkljafmdbajfeaaGreatDoor
