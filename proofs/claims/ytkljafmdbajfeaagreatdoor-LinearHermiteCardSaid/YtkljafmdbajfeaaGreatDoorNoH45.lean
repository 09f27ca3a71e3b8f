/- The reference's rows: lists (rows as ints). -/
import Derived.Test.YtkljafmdbajfeaaGreatDoorNoH14
import Derived.Test.YtkljafmdbajfeaaGreatDoorNoH23
import Derived.Test.YtkljafmdbajfeaaGreatDoorNoH38
import Derived.Test.YtkljafmdbajfeaaGreatDoorNoH41
import Derived.Test.YtkljafmdbajfeaaGreatDoorNoH44
namespace Go.Proofs.YtkljafmdbajfeaaGreatDoor
set_option linter.unusedVariables false
set_option linter.unusedSimpArgs false
open Go.Lib (hid)
section
open Go.RowKit Go.ChangeMaps
theorem Ints.grownS {w w':World} {v:Value} {A:Option Addr} {l:List Int} (h:Ints w A l) (hq:OwnC isSl w v) (hg:w.grownBy w' v.ownBlock):Ints w' A l:=fun i hi=>by
 obtain ⟨b,off,e,hc⟩:=h i hi
 refine ⟨b,off,e,(World.cell?_of_block (a:=⟨b,off+i,none⟩) (hg.block b (cell_lt hc) fun e=>?_)).trans hc⟩
 exact isSl_int (hq b e.symm _ _ hc) _ _ rfl
def ISl (w:World) (v:Value) (l:List Int):Prop:=∃ A c,v=.slice A l.length c∧l.length≤c∧c≤maxLen∧Ints w A l
theorem ISl.ext {w w':World} {v:Value} {l:List Int} (h:ISl w v l) (hb:Below w.heap.size w w'):ISl w' v l:=by
 obtain ⟨A,c,h1,h2,h3,h4⟩:=h;exact ⟨A,c,h1,h2,h3,h4.ext hb⟩
theorem ISl.grownS {w w':World} {v u:Value} {l:List Int} (h:ISl w u l) (hq:OwnC isSl w v) (hg:w.grownBy w' v.ownBlock):ISl w' u l:=by
 obtain ⟨A,c,h1,h2,h3,h4⟩:=h;exact ⟨A,c,h1,h2,h3,h4.grownS hq hg⟩
structure OwnG (w:World) (base:Nat) (v:Value) (rs:List (List Int)):Prop where
 ex:∃ xs,w.ownsRow base 23 1 v rs.length xs∧OwnC isSl w v∧∀ i,i<rs.length→∃ u,xs[i]? = some u∧ISl w u (nrow rs i)
theorem OwnG.nil (w:World) (base:Nat):OwnG w base (.slice none 0 0) []:=⟨[],World.ownsRow_nil _ _ _ _,OwnC.nil _ _ _ _,fun i hi=>by simp at hi⟩
theorem OwnG.ext {w w':World} {base:Nat} {v:Value} {rs:List (List Int)} (h:OwnG w base v rs) (hb:Below w.heap.size w w'):OwnG w' base v rs:=by
 obtain ⟨xs,h1,h2,h3⟩:=h.ex
 exact ⟨xs,own_ext h1 hb,h2.ext h1 hb,fun i hi=>by obtain ⟨u,k1,k2⟩:=h3 i hi;exact ⟨u,k1,k2.ext hb⟩⟩
theorem OwnG.at {w:World} {base:Nat} {v:Value} {rs:List (List Int)} (h:OwnG w base v rs):∃ A c,v=.slice A rs.length c∧rs.length≤c∧c≤maxLen∧Grid w A rs:=by
 obtain ⟨xs,h1,h2,h3⟩:=h.ex
 obtain ⟨A,c,rfl,k1,k2⟩:=own_size h1
 refine ⟨A,c,rfl,k1,k2,fun i hi=>?_⟩
 obtain ⟨u,e1,B,c',rfl,e3,e4,e5⟩:=h3 i hi
 rcases h1.2 with ⟨e,e0⟩|⟨g,cap,cur,e,-⟩
 ·omega
 ·injection e with e _ _
  subst e
  exact ⟨g,0,B,c',rfl,by rw [Nat.zero_add,h1.cellAt _ (by omega)];exact e1,e3,e5⟩
theorem infoInts:(Tryz.prog.info? 23).map (fun i=>(i.zero,i.size,i.bytes))=some (some (.slice none 0 0),1,24):=by kernel_rfl
theorem OwnG.more {w w':World} {base:Nat} {v v' u:Value} {rs:List (List Int)} {r:List Int} {xs:List Value} (h2:OwnC isSl w v) (h3:∀ i,i<rs.length→∃ u,xs[i]? = some u∧ISl w u (nrow rs i)) (hx:xs.length=rs.length)
 (hu:ISl w u r) (hg:w.grownBy w' v.ownBlock) (ho:w'.ownsRow base 23 1 v' (rs.length+1) (xs ++ [u])) (hq:OwnC isSl w' v'):OwnG w' base v' (rs ++ [r]):=by
 refine ⟨xs ++ [u],by rw [List.length_append];exact ho,hq,fun i hi=>?_⟩
 rw [List.length_append,List.length_cons,List.length_nil] at hi
 by_cases e:i<rs.length
 ·obtain ⟨u',k1,k2⟩:=h3 i e
  exact ⟨u',by rw [List.getElem?_append_left (by omega)];exact k1,by rw [brow_app e];exact k2.grownS h2 hg⟩
 ·obtain rfl:i=rs.length:=by omega
  exact ⟨u,by rw [List.getElem?_append_right (by omega),hx];simp,by rw [brow_last];exact hu.grownS h2 hg⟩
set_option maxRecDepth 100000 in
theorem wp_snocG2 {ops:Array Oper} {rest:List Oper} {o:Oper} {a:Act} {R:Exit→Act→World→Prop} (hgd:o.guard=none) (s x:Operand)
 (ho:o.op=.call { callee:=.builtin .append,args:=#[s,x],argTypes:=#[22,22] }) {wr:World} {base:Nat} {v u:Value} {rs:List (List Int)} {r:List Int} (hs:a.eval s=v)
 (hx:a.eval x=.slice (some ⟨wr.heap.size,0,none⟩) 1 1) (hown:OwnG wr base v rs) (hu:ISl wr u r) (hl:rs.length≤1000) (hb:base≤wr.heap.size)
 (h:∀ v' w',Hid (OwnG w' base v' (rs ++ [r]))→Hid (∀ (B:Nat) (w0:World),Below B w0 wr→B≤base→Below B w0 w')→Hid (∀ t l,ISl wr t l→ISl w' t l)→wpList Tryz.prog ops R rest (a.put o.dst v') w') :
 wpList Tryz.prog ops R (o :: rest) a (wr.alloc (.cells #[u] 23 (0,0))):=by
 obtain ⟨i0,hi,hz0,hz1,hz2⟩:=info_parts infoInts
 obtain ⟨xs,h1,h2,h3⟩:=hown.ex
 have hus:isSl u:=by obtain ⟨A,c,rfl,-⟩:=hu;exact ⟨_,_,_,rfl⟩
 have hu1:u.oneCell'=true:=by obtain ⟨A,n,c,rfl⟩:=hus;rfl
 have hb0:Below wr.heap.size wr (wr.alloc (.cells #[u] 23 (0,0))):=(Below.refl _ _).alloc (Nat.le_refl _) _
 refine wpList_append_all isSl hgd s x 22 ho base 23 i0 _ 24 Tryz.underlying22 hi hz0 hz1 hz2 rfl ⟨_,_,_,rfl⟩ v rs.length xs hs (own_ext h1 hb0) (h2.ext h1 hb0) ⟨wr.heap.size,0,none⟩ 1 1 [u] hx rfl ?_ ?_ ?_ (by omega) (by unfold maxLen;omega) (by omega) (by simp;omega) ?_
 ·intro j y hj
  rcases j with _|j
  ·simp at hj;subst hj;exact (Blk.new wr [u] 23).cell 0 (by simp)
  ·simp at hj
 ·intro y hy;simp at hy;subst hy;exact hu1
 ·intro y hy;simp at hy;subst hy;exact hus
 ·intro v' w' k1 k2 k3
  refine h v' w' (hid (OwnG.more (h2.ext h1 hb0) (fun i hi=>by obtain ⟨u,k1,k2⟩:=h3 i hi;exact ⟨u,k1,k2.ext hb0⟩) (by rw [h1.1,Nat.mul_one]) (hu.ext hb0) k2 k1 k3)) (hid fun B w0 hB hBb=>?_) (hid fun t l ht=>(ht.ext hb0).grownS (h2.ext h1 hb0) k2)
  exact (hB.alloc (by omega) _).grown k2 (by simp;omega) fun k hk=>Nat.le_trans hBb (World.ownsRow.lt h1 k hk).1
set_option maxRecDepth 100000 in
set_option maxHeartbeats 1000000 in
theorem listsB_calls (A:Option Addr) (c:Nat) (rs:List (List Int)) (w:World) (h:RowsAt w A rs) (hl:rs.length≤1000) (hw:∀ r∈rs,r.length≤1000) (hf:∀ r∈rs,∀ i,i<r.length→Few (nth r i)) :
 Calls Tryz.prog 85 #[.slice A rs.length c] w fun e w'=>∃ v,e=.returned (.tuple #[v,.bool (rs.all fun r=>r.all fit62)])∧OwnG w' w.heap.size v (rs.map fun r=>r.map cut62)∧Below w.heap.size w w':=by
 have HF:=hid hf;have HW:=hid hw
 clear hf hw
 go_enter Tryz.func85,Tryz.ntmps85
 go_wp2_with fail
 go_loopw [4,5,6,7,8] (fun v o i _ _ wr=>∃ k:Nat,k≤rs.length∧i=.int .i64 k∧o=.bool ((rs.take k).all fun r=>r.all fit62)∧OwnG wr w.heap.size v ((rs.take k).map fun r=>r.map cut62)∧Below w.heap.size w wr) (fun _ _ i _ _ _=>rs.length-(intOf i).toNat)
 case atStart=>exact ⟨0,Nat.zero_le _,rfl,rfl,OwnG.nil _ _,Below.refl _ _⟩
 case round =>
  obtain ⟨k,hk,rfl,rfl,hob,hbe⟩:=hrel
  have HB:=hid hbe;have HO:=hid hob
  obtain ⟨q0,hq0⟩:∃ q,((rs.take k).all fun r=>r.all fit62)=q:=⟨_,rfl⟩
  rw [hq0]
  by_cases hlt:k<rs.length
  ·have h1:(k:Int)<rs.length:=by omega
   obtain ⟨b1,o1,B,cb,rfl,g1,-,-,hN⟩:=(h.ext hbe) k hlt
   have HI:=hid (intsB_calls B cb (nrow rs k) wr hN (HW.out _ (nrow_mem hlt)) (HF.out _ (nrow_mem hlt)))
   obtain ⟨q1,hq1⟩:∃ q,(nrow rs k).all fit62=q:=⟨_,rfl⟩
   rw [hq1] at HI
   have HQ:Hid (((rs.take (k+1)).all fun r=>r.all fit62)=(q0 && q1)):=hid (by rw [take_nrow hlt,List.all_append,hq0,←hq1];simp)
   have HM:Hid ((rs.take (k+1)).map (fun r=>r.map cut62)=(rs.take k).map (fun r=>r.map cut62) ++ [(nrow rs k).map cut62]):=hid (by rw [take_nrow hlt,List.map_append];rfl)
   have HLT:Hid (((rs.take k).map fun r=>r.map cut62).length≤1000):=hid (by rw [List.length_map,List.length_take];omega)
   have HLM:Hid ((nrow rs k).length≤1000):=hid (HW.out _ (nrow_mem hlt))
   have HL:=hid hlt
   clear hbe h hob hN hq1 hq0
   go_wp2_with fail
   refine HI.out.mono ?_;rintro e w1 ⟨rfl,hblk,hb1⟩
   have HB1:=hid (HB.out.trans (hb1.mono HB.out.size))
   have HO1:=hid (HO.out.ext hb1)
   have hs1:=HB1.out.size
   have HU:Hid (ISl w1 (.slice (some ⟨wr.heap.size,0,none⟩) (nrow rs k).length (nrow rs k).length) ((nrow rs k).map cut62)):=hid ⟨some ⟨wr.heap.size,0,none⟩,(nrow rs k).length,by rw [List.length_map],by rw [List.length_map];exact Nat.le_refl _,by have:=HLM.out;unfold maxLen;omega,fun i hi=>⟨wr.heap.size,0,rfl,by rw [Nat.zero_add];exact IBlk.cell hblk i hi⟩⟩
   clear hb1 HI HB HO hblk
   go_wp2_with (at_builtin;refine wp_snocG2 rfl _ _ rfl rfl rfl HO1.out HU.out HLT.out (by omega) ?_)
   intro v' w2 ho hb2 _
   have HB2:=hid (hb2.out _ _ HB1.out (Nat.le_refl _))
   have HO2:Hid (OwnG w2 w.heap.size v' ((rs.take (k+1)).map fun r=>r.map cut62)):=hid (by rw [HM.out,List.map_take];exact ho.out)
   clear hs1 hb2 HB1 HO1 ho
   cases q0 with
   | false =>
     go_wp2_with fail
     go_roundw
     case rel=>exact ⟨k+1,by omega,by go_num,by rw [HQ.out];rfl,HO2.out,HB2.out⟩
     case measure=>simp [intOf];omega
   | true =>
     go_wp2_with fail
     go_roundw
     case rel=>exact ⟨k+1,by omega,by go_num,by rw [HQ.out,Bool.true_and],HO2.out,HB2.out⟩
     case measure=>simp [intOf];omega
  ·obtain rfl:k=rs.length:=by omega
   have HQ:Hid ((rs.all fun r=>r.all fit62)=q0):=hid (by rw [←hq0,List.take_length])
   clear hbe h hob hq0
   go_wp2
   go_ret2
   exact ⟨_,by rw [HQ.out];rfl,by have:=HO.out;rw [List.take_length] at this;exact this,HB.out⟩
end
section
open Go.RowKit
def sameB (xs ys:List Int):Bool:=decide (xs=ys)
theorem sameB_len {xs ys:List Int} (h:xs.length≠ys.length):sameB xs ys=false:=by
 unfold sameB;exact decide_eq_false fun e=>h (by rw [e])
theorem sameB_at {xs ys:List Int} {i:Nat} (h:nth xs i≠nth ys i):sameB xs ys=false:=by
 unfold sameB;exact decide_eq_false fun e=>h (by rw [e])
theorem sameB_all {xs ys:List Int} (hl:xs.length=ys.length) (h:∀ i,i<xs.length→nth xs i=nth ys i):sameB xs ys=true:=by
 unfold sameB
 refine decide_eq_true (List.ext_getElem hl fun i h1 h2=>?_)
 have:=h i h1
 rw [nth_lt h1,nth_lt h2] at this;exact this
set_option maxHeartbeats 1000000 in
theorem same_calls (A B:Option Addr) (ca cb:Nat) (xs ys:List Int) (w:World) (hx:xs.length≤maxLen) (hy:ys.length≤maxLen) (hA:Ints w A xs) (hB:Ints w B ys) :
 Calls Tryz.prog 36 #[.slice A xs.length ca,.slice B ys.length cb] w fun e w'=>e=.returned (.bool (sameB xs ys))∧∃ k,w'=w.drewN k:=by
 unfold maxLen at hx hy
 by_cases hl:xs.length=ys.length
 ·have d1:((xs.length:Int) != (ys.length:Int))=false:=by simp [hl]
  have HL:=hid hl;clear hl
  go_enter Tryz.func36,Tryz.ntmps36
  go_wp2
  go_loopw [5] (fun i wr=>∃ k n:Nat,k≤xs.length∧i=.int .i64 k∧(∀ j,j<k→nth xs j=nth ys j)∧wr=w.drewN n) (fun i _=>xs.length-(intOf i).toNat)
  case atStart=>exact ⟨0,0,Nat.zero_le _,rfl,fun j hj=>by omega,rfl⟩
  case round =>
   obtain ⟨k,n,hk,rfl,hs,rfl⟩:=hrel
   have HS:=hid hs;clear hs
   by_cases hlt:k<xs.length
   ·obtain ⟨b1,o1,rfl,g1⟩:=hA k hlt
    obtain ⟨b2,o2,rfl,g2⟩:=hB k (by rw [←HL.out];exact hlt)
    have h0:(0:Int)≤k:=by omega
    have h1:(k:Int)<xs.length:=by omega
    have h2:(k:Int)<ys.length:=by have:=HL.out;omega
    by_cases hq:nth xs k=nth ys k
    ·have q1:(nth xs k != nth ys k)=false:=by simp [hq]
     have HQ:=hid hq;clear hq
     go_wp2_with fail
     go_quiet (fail)
     go_wp2
     go_roundw
     case rel=>exact ⟨k+1,_,by omega,by go_num,fun j hj=>by rcases Nat.lt_or_ge j k with e|e;exact HS.out j e;(obtain rfl:j=k:=by omega);exact HQ.out,by first|rfl|exact drewN_add _ _ _⟩
     case measure=>simp [intOf];omega
    ·have q1:(nth xs k != nth ys k)=true:=by simp [hq]
     have HQ:=hid hq;clear hq
     go_wp2_with fail
     go_quiet (fail)
     go_wp2
     go_ret
     exact ⟨by rw [sameB_at HQ.out];rfl,_,by first|rfl|exact drewN_add _ _ _⟩
   ·obtain rfl:k=xs.length:=by omega
    go_wp2
    go_ret
    exact ⟨by rw [sameB_all HL.out HS.out];rfl,n,rfl⟩
 ·have d1:((xs.length:Int) != (ys.length:Int))=true:=by simp;omega
  have HL:=hid hl;clear hl
  go_enter Tryz.func36,Tryz.ntmps36
  go_wp2
  go_ret
  exact ⟨by rw [sameB_len HL.out];rfl,0,rfl⟩
end
section
open Go.RowKit
theorem rows_ext {a b:List (List Int)} (hl:a.length=b.length) (h:∀ i,i<a.length→nrow a i=nrow b i):a=b:=by
 refine List.ext_getElem hl fun i h1 h2=>?_
 have:=h i h1
 unfold nrow at this
 simpa [h1,h2] using this
set_option maxRecDepth 100000 in
set_option maxHeartbeats 4000000 in
theorem lists_calls (A B:Option Addr) (ca cb:Nat) (a b:List (List Int)) (w:World) (hA:Grid w A a) (hB:Grid w B b) (ha:a.length≤1000) (hb:b.length≤1000) (hra:∀ r∈a,r.length≤maxLen) (hrb:∀ r∈b,r.length≤maxLen) :
 Calls Tryz.prog 33 #[.slice A a.length ca,.slice B b.length cb] w fun e w'=>e=.returned (.bool (decide (a=b)))∧Below w.heap.size w w':=by
 by_cases hl:a.length=b.length
 ·have d1:((a.length:Int) != (b.length:Int))=false:=by simp [hl]
  have HL:=hid hl;have HA:=hid hA;have HB:=hid hB;have HRA:=hid hra;have HRB:=hid hrb
  clear hl hA hB hra hrb
  go_enter Tryz.func33,Tryz.ntmps33
  go_wp2
  go_loopw [5] (fun ti wr=>∃ (i:Nat),i≤a.length∧ti=.int .i64 i∧Hid (∀ j,j<i→nrow a j=nrow b j)∧Hid (Below w.heap.size w wr)) (fun ti _=>a.length-(intOf ti).toNat)
  case atStart=>exact ⟨0,Nat.zero_le _,rfl,hid (fun j hj=>by omega),hid (Below.refl _ _)⟩
  case round =>
   obtain ⟨i,hi,rfl,hall,hbe⟩:=hrel
   by_cases hlt:i<a.length
   ·have hi1:(i:Int)<a.length:=by omega
    have hi2:(i:Int)<b.length:=by rw [←HL.out];exact hi1
    obtain ⟨b1,o1,R,cR,rfl,c1,-,c2⟩:=(HA.out.ext hbe.out) i hlt
    obtain ⟨b2,o2,S,cS,rfl,d1,-,d2⟩:=(HB.out.ext hbe.out) i (by rw [←HL.out];exact hlt)
    have hr1:=HRA.out _ (nrow_mem hlt)
    have hr2:=HRB.out _ (nrow_mem (l:=b) (i:=i) (by rw [←HL.out];exact hlt))
    have HSM:=hid (fun W (hW:Below wr.heap.size wr W)=>same_calls R S cR cS (nrow a i) (nrow b i) W hr1 hr2 (c2.ext hW) (d2.ext hW))
    have HLT:=hid hlt
    clear c2 d2 hr1 hr2
    obtain ⟨e,he⟩:∃ e,sameB (nrow a i) (nrow b i)=e:=⟨_,rfl⟩
    rw [he] at HSM
    have HEE:=hid he
    clear he
    go_wp2_with fail
    refine wp_region_kc (w0:=wr) 10 [17,18,19,20,21,22,23,24,25,26]
     [.c (.slice (some ⟨b1,o1,none⟩) a.length ca),.c (.int .i64 i),.c (.pointer (some ⟨b1,o1+i,none⟩)),.c (.slice R (nrow a i).length cR),.c (.slice (some ⟨b2,o2,none⟩) b.length cb),.c (.int .i64 i),.c (.pointer (some ⟨b2,o2+i,none⟩)),.c (.slice S (nrow b i).length cS),.c (.bool e),.c (.bool (!e))]
     [] NoBlk (by kernel_rfl) (by kernel_rfl) (by kernel_rfl) rfl (F:=?cFl6) ?l6c1 ?l6c2 ?l6c3 ?l6c4
    case l6c1 =>
     intro x
     simp only [fullC,Act.put,List.setIfInBounds_toArray,List.set_cons_zero,List.set_cons_succ]
     rfl
    case l6c2 =>
     exact trivial
    case l6c3 =>
     refine ⟨?_,?_,?_,?_,?_,?_,?_,?_,?_,?_,trivial⟩
     all_goals
      intro xx wq HE hd K hK
      have hc:=(bcell HE).1
      have c1':=(hc _ _ (cell_lt c1)).trans c1
      have d1':=(hc _ _ (cell_lt d1)).trans d1
      have HE:=hid HE
      have HC:=hid hc
      clear hd hc
      all_goals go_simp
      try (refine hK _ _ _ (mv_const _ rfl) ?_;dsimp only [Act.put];first|done|rfl|(simp [*];done))
     ·refine (HSM.out wq HE.out).mono ?_
      rintro e w3 ⟨rfl,k3,hk3⟩
      exact hK _ _ _ (mv_plain (by rw [hk3];exact drewN_below _ _) rfl rfl) (by first|(dsimp only [Act.put];done)|(dsimp only [Act.put];first|rfl|(simp [*];done)|(simp [*,ptr];done)))
    case l6c4 =>
     intro xx wz hE hG hA
     have HBz:=hid (hbe.out.trans (hE.mono hbe.out.size))
     clear hG hA hE
     refine wpAny_done (by kernel_rfl) ?_ _
     cases e with
     | true =>
       have HN:Hid (∀ j,j<i+1→nrow a j=nrow b j):=hid (fun j hj=>by
        by_cases e:j=i
        ·subst e;exact of_decide_eq_true HEE.out
        ·exact hall.out j (by omega))
       clear hall
       go_wp2
       go_roundw
       case rel=>exact ⟨i+1,by have:=HLT.out;omega,by go_num,HN,HBz⟩
       case measure=>have:=HLT.out;simp [intOf];omega
     | false =>
       have HN:Hid (decide (a=b)=false):=hid (decide_eq_false fun e=>by
        have h:=HEE.out
        unfold sameB at h
        have:=of_decide_eq_false h
        exact this (by rw [e]))
       clear hall
       go_wp2
       go_ret
       exact ⟨by rw [HN.out];rfl,HBz.out⟩
   ·obtain rfl:i=a.length:=by omega
    have HD:Hid (decide (a=b)=true):=hid (decide_eq_true (rows_ext HL.out hall.out))
    clear hall
    go_wp2
    go_ret
    exact ⟨by rw [HD.out];rfl,hbe.out⟩
 ·have d1:((a.length:Int) != (b.length:Int))=true:=by simp;omega
  have hd:decide (a=b)=false:=decide_eq_false fun e=>hl (by rw [e])
  have HD:=hid hd
  clear hl hd
  go_enter Tryz.func33,Tryz.ntmps33
  go_wp2
  go_ret
  exact ⟨by rw [HD.out];rfl,Below.refl _ _⟩
end
section
open Go.RowKit Go.ChangeMaps
open Lp (Lt V Ech pivots Gen From Least)
theorem rowed_far (A:Option Addr) (c:Nat) (l:List (List Int)) (k:Int) (w:World) (h:k<1∨6<k) :
 Calls Tryz.prog 80 #[.slice A l.length c,.int .i64 k] w fun e w'=>e=.returned (.bool false)∧Below w.heap.size w w':=by
 have hb0:∀ o,Below w.heap.size w (w.alloc o):=fun o=>(Below.refl _ _).alloc (Nat.le_refl _) _
 rcases h with h|h
 ·have d1:decide (1≤k)=false:=decide_eq_false (by omega)
  go_enter Tryz.func80,Tryz.ntmps80
  go_wp2
  go_ret
  exact ⟨rfl,hb0 _⟩
 ·have d1:decide (1≤k)=true:=decide_eq_true (by omega)
  have d2:decide (k≤6)=false:=decide_eq_false (by omega)
  go_enter Tryz.func80,Tryz.ntmps80
  go_wp2
  go_ret
  exact ⟨rfl,hb0 _⟩
theorem herm_far (A:Option Addr) (c:Nat) (l:List (List Int)) (k:Int) (w:World) (h:k<1∨6<k) :
 Calls Tryz.prog 31 #[.slice A l.length c,.int .i64 k] w fun e w'=>e=.returned (.tuple #[.slice none 0 0,.int .i64 2])∧Below w.heap.size w w':=by
 have HRW:=hid (rowed_far A c l k w h)
 clear h
 go_enter Tryz.func31,Tryz.ntmps31
 go_wp2_with fail
 refine HRW.out.mono ?_;rintro e w1 ⟨rfl,hb1⟩
 go_wp2
 go_ret2
 exact ⟨rfl,hb1⟩
def okN (l:List (List Int)) (k:Int):Bool:=decide (1≤k) && decide (k≤6) && rowsOk l k.toNat
theorem okN_nat {l:List (List Int)} {k:Int} (h:okN l k=true):∃ n:Nat,k=n∧1≤n∧n≤6∧rowsOk l n=true:=by
 unfold okN at h
 simp only [Bool.and_eq_true,decide_eq_true_eq] at h
 exact ⟨k.toNat,by omega,by omega,by omega,h.2⟩
def okR (l:List (List Int)) (xs:List Int):Bool:=rowsOk l xs.length && listOk 1000 xs
end
section
open Go.RowKit Go.ChangeMaps
set_option maxRecDepth 100000 in
set_option maxHeartbeats 1000000 in
theorem copied_calls (A:Option Addr) (c:Nat) (l:List (List Int)) (w:World) (h:Grid w A l) (hl:l.length≤1000) (hr:∀ r∈l,r.length≤1000) :
 Calls Tryz.prog 30 #[.slice A l.length c] w fun e w'=>∃ v,e=.returned v∧OwnG w' w.heap.size v l∧Below w.heap.size w w':=by
 have HR:=hid hr
 clear hr
 go_enter Tryz.func30,Tryz.ntmps30
 go_wp2_with fail
 go_loopw [3,4] (fun v i wr=>∃ k:Nat,k≤l.length∧i=.int .i64 k∧OwnG wr w.heap.size v (l.take k)∧Below w.heap.size w wr) (fun _ i _=>l.length-(intOf i).toNat)
 case atStart=>exact ⟨0,Nat.zero_le _,rfl,OwnG.nil _ _,Below.refl _ _⟩
 case round =>
  obtain ⟨k,hk,rfl,hown,hbe⟩:=hrel
  have HB:=hid hbe;have HO:=hid hown
  by_cases hlt:k<l.length
  ·have h1:(k:Int)<l.length:=by omega
   obtain ⟨b1,o1,B,cb,rfl,g1,-,hN⟩:=(h.ext hbe) k hlt
   have HN:=hid hN
   have HLX:Hid ((nrow l k).length≤1000):=hid (HR.out _ (nrow_mem hlt))
   have HTK:Hid (l.take (k+1)=l.take k ++ [nrow l k]):=hid (take_nrow hlt)
   have HLT:Hid ((l.take k).length≤1000):=hid (by rw [List.length_take];omega)
   have g2:=(((Below.refl _ wr).alloc (Nat.le_refl _) (.cells #[] 3 (0,0))).cell (p:=⟨b1,o1+k,none⟩) (cell_lt g1)).trans g1
   clear hown hbe h hN
   go_wp2_with (at_builtin;go_loud (refine wpList_copyI (base:=wr.heap.size) (g0:=wr.heap.size) (xs:=nrow l k) rfl _ _ rfl rfl rfl (World.ownsRow_made wr #[] 0 (Nat.le_refl _) (Nat.zero_le _) rfl) (HN.out.ext ((Below.refl _ wr).alloc (Nat.le_refl _) _)) HLX.out (by simp) ?_))
   intro X' cx w1 hX hc1 hc2 hbc
   have hb1:Below wr.heap.size wr w1:=((Below.refl _ wr).alloc (Nat.le_refl _) _).trans hbc.out
   have HB1:=hid (HB.out.trans (hb1.mono HB.out.size))
   have HO1:=hid (HO.out.ext hb1)
   have HU:Hid (ISl w1 (.slice X' (nrow l k).length cx) (nrow l k)):=hid ⟨X',cx,rfl,hc1,hc2,hX.out⟩
   have hs1:=HB1.out.size
   clear hb1 hbc hX hc1 hc2 HB HO HN g1 g2
   go_wp2_with (at_builtin;refine wp_snocG2 rfl _ _ rfl rfl rfl HO1.out HU.out HLT.out (by omega) ?_)
   intro v' w2 ho hb2 _
   have HB2:=hid (hb2.out _ _ HB1.out (Nat.le_refl _))
   clear hs1 hb2 HB1 HO1
   go_wp2
   go_roundw
   case rel=>exact ⟨k+1,by omega,by go_num,by rw [HTK.out];exact ho.out,HB2.out⟩
   case measure=>simp [intOf];omega
  ·obtain rfl:k=l.length:=by omega
   clear hown hbe h
   go_wp2
   go_ret
   exact ⟨_,rfl,by have:=HO.out;rw [List.take_length] at this;exact this,HB.out⟩
end
section
open Go.RowKit
open Lp (Lt V Ech Gen From Red pivots sumTo Feas EndFound EndEmpty EndFree)
def exL:Lt:=fun p=>if p=0 then some (nth [2,3]) else none
theorem nth23 (i:Nat):nth [2,3] i=if i=0 then 2 else if i=1 then 3 else 0:=by
 match i with
 | 0=>rfl
 | 1=>rfl
 | i+2=>rw [nth_beyond (by simp)];simp
theorem nth46 (i:Nat):nth [4,6] i=2*nth [2,3] i:=by
 match i with
 | 0=>rfl
 | 1=>rfl
 | i+2=>rw [nth_beyond (by simp),nth_beyond (by simp)];rfl
theorem nth69 (i:Nat):nth [6,9] i=3*nth [2,3] i:=by
 match i with
 | 0=>rfl
 | 1=>rfl
 | i+2=>rw [nth_beyond (by simp),nth_beyond (by simp)];rfl
theorem exL_ech:Ech 2 exL:=by
 have key:∀ p r,exL p=some r→p=0∧r=nth [2,3]:=fun p r h=>by
  unfold exL at h;split at h
  ·injection h with h;exact ⟨by assumption,h.symm⟩
  ·cases h
 refine ⟨fun p r h=>?_,fun p r h i hi=>?_,fun p r h i hi=>?_,fun p r h=>?_⟩<;>obtain ⟨rfl,rfl⟩:=key p r h
 ·omega
 ·omega
 ·rw [nth_beyond (by simpa using hi)]
 ·decide
theorem exL_red:Red exL:=fun p r q s h1 h2 h3=>by
 unfold exL at h1;split at h1
 ·omega
 ·cases h1
theorem ex_gen (x:V):Gen (From exL 0) x↔Gen (·∈[[4,6],[6,9]].map nth) x:=by
 have hg:Gen (From exL 0) (nth [2,3]):=.one ⟨0,by omega,rfl⟩
 have h1:Gen (·∈[[4,6],[6,9]].map nth) (nth [4,6]):=.one (by simp)
 have h2:Gen (·∈[[4,6],[6,9]].map nth) (nth [6,9]):=.one (by simp)
 have h3:Gen (·∈[[4,6],[6,9]].map nth) (nth [2,3]):=(h2.addMul (-1) h1).cast fun i=>by rw [nth46,nth69];omega
 constructor
 ·intro h
  induction h with
  | zero=>exact .zero
  | step v r c _ hr ih =>
    obtain ⟨q,-,hq⟩:=hr
    unfold exL at hq;split at hq
    ·injection hq with hq;subst hq;exact ih.addMul c h3
    ·cases hq
 ·intro h
  induction h with
  | zero=>exact .zero
  | step v r c _ hr ih =>
    simp only [List.map_cons,List.map_nil,List.mem_cons,List.not_mem_nil,or_false] at hr
    rcases hr with rfl|rfl
    ·exact (ih.addMul (2*c) hg).cast fun i=>by rw [nth46];rw [Int.mul_comm 2 c,Int.mul_assoc]
    ·exact (ih.addMul (3*c) hg).cast fun i=>by rw [nth69];rw [Int.mul_comm 3 c,Int.mul_assoc]
theorem ex_rows {rows:Lt} (h:Ech 2 rows) (hr:Red rows) (hg:∀ x,Gen (From rows 0) x↔Gen (·∈[[4,6],[6,9]].map nth) x):rowsOf rows 2=[nth [2,3]]:=by
 have hs:=h.same exL_ech hr exL_red (fun v=>(hg v).trans (ex_gen v).symm)
 have:rows=exL:=funext hs
 subst this
 rfl
def exA:List (List Int):=[[1,2],[3,1]]
theorem exQ:qA exA 0 0=1∧qA exA 0 1=2∧qA exA 1 0=3∧qA exA 1 1=1∧qB [4,6] 0=4∧qB [4,6] 1=6∧qB [1,1] 0=1∧qB [1,1] 1=1:=⟨rfl,rfl,rfl,rfl,rfl,rfl,rfl,rfl⟩
theorem sum2 (f:Nat→Rat):sumTo 2 f=f 0+f 1:=by simp only [sumTo];grind
theorem ex_found {x y:Nat→Rat} (h:EndFound (qA exA) (qB [4,6]) (qB [1,1]) 2 2 x y):5*x 0=8∧5*x 1=6:=by
 obtain ⟨e1,e2,e3,e4,e5,e6,e7,e8⟩:=exQ
 have g0:=h.feas.ge 0 (by omega)
 have g1:=h.feas.ge 1 (by omega)
 have n0:=h.nn 0 (by omega)
 have n1:=h.nn 1 (by omega)
 have l0:=h.le 0 (by omega)
 have l1:=h.le 1 (by omega)
 have lv:=h.level
 simp only [sum2,e1,e2,e3,e4,e5,e6,e7,e8] at g0 g1 l0 l1 lv
 generalize x 0=x0 at *
 generalize x 1=x1 at *
 generalize y 0=y0 at *
 generalize y 1=y1 at *
 clear h e1 e2 e3 e4 e5 e6 e7 e8
 have a1:4*y0+6*y1≤14 / 5:=by grind
 constructor<;>grind
theorem ex_empty {y:Nat→Rat} (h:EndEmpty (qA exA) (qB [4,6]) 2 2 y):False:=by
 obtain ⟨e1,e2,e3,e4,e5,e6,e7,e8⟩:=exQ
 have n0:=h.nn 0 (by omega)
 have n1:=h.nn 1 (by omega)
 have l0:=h.le 0 (by omega)
 have l1:=h.le 1 (by omega)
 have ps:=h.pos
 simp only [sum2,e1,e2,e3,e4,e5,e6] at l0 l1 ps
 generalize y 0=y0 at *
 generalize y 1=y1 at *
 grind
theorem ex_free {x:Nat→Rat} (h:EndFree (qA exA) (qB [4,6]) (qB [1,1]) 2 2 x):False:=by
 obtain ⟨e1,e2,e3,e4,e5,e6,e7,e8⟩:=exQ
 have n0:=h.nn 0 (by omega)
 have n1:=h.nn 1 (by omega)
 have fl:=h.falls
 simp only [sum2,e7,e8] at fl
 generalize x 0=x0 at *
 generalize x 1=x1 at *
 grind
theorem ex_point {xs:List Int} {d:Int} {x:Nat→Rat} (h:PtOf xs d 2 x) (h0:5*x 0=8) (h1:5*x 1=6):xs=[8,6]∧d=5:=by
 have v0:=h.val 0 (by omega)
 have v1:=h.val 1 (by omega)
 have hl:=h.len
 match xs,hl with
 | [a,b],_ =>
   have e0:nth [a,b] 0=a:=rfl
   have e1:nth [a,b] 1=b:=rfl
   rw [e0] at v0;rw [e1] at v1
   have i0:5*a=8*d:=by
    have:((5*a:Int):Rat)=((8*d:Int):Rat):=by rw [Rat.intCast_mul,Rat.intCast_mul,v0];grind
    exact Rat.intCast_inj.1 this
   have i1:5*b=6*d:=by
    have:((5*b:Int):Rat)=((6*d:Int):Rat):=by rw [Rat.intCast_mul,Rat.intCast_mul,v1];grind
    exact Rat.intCast_inj.1 this
   have hd:=h.d1
   obtain ⟨k,hk⟩:∃ k:Nat,d=5*(k:Int):=⟨(d / 5).toNat,by omega⟩
   have ha:a=8*(k:Int):=by omega
   have hb:b=6*(k:Int):=by omega
   have hlow:=h.low
   have hk1:k ∣ gcdN d [a,b] 2:=by
    have q0:(nth [a,b] 0).natAbs=8*k:=by rw [e0,ha];omega
    have q1:(nth [a,b] 1).natAbs=6*k:=by rw [e1,hb];omega
    simp only [gcdN]
    rw [q0,q1]
    exact Nat.dvd_gcd (Nat.dvd_gcd ⟨5,by rw [hk];omega⟩ ⟨8,by omega⟩) ⟨6,by omega⟩
   rw [hlow] at hk1
   have:k=1:=Nat.dvd_one.1 hk1
   subst this
   exact ⟨by rw [ha,hb];rfl,by omega⟩
end
section
open Go.RowKit
open Lp (Lt V Ech Gen From Red pivots EndFound)
theorem ints2 {w:World} {g:Nat} {a b:Int} {T:TypeId} (h:Blk w g [.int .i64 a,.int .i64 b] T):Ints w (some ⟨g,0,none⟩) [a,b]:=fun i hi=>by
 refine ⟨g,0,rfl,?_⟩
 rw [Nat.zero_add]
 have h1:i=0∨i=1:=by simp at hi;omega
 rcases h1 with rfl|rfl
 ·exact h.cell 0 (by simp)
 ·exact h.cell 1 (by simp)
theorem grid2 {w:World} {g g0 g1:Nat} {T:TypeId} {a b c d:Int} {T0 T1:TypeId} (h:Blk w g [.slice (some ⟨g0,0,none⟩) 2 2,.slice (some ⟨g1,0,none⟩) 2 2] T) (h0:Blk w g0 [.int .i64 a,.int .i64 b] T0) (h1:Blk w g1 [.int .i64 c,.int .i64 d] T1) :
 Grid w (some ⟨g,0,none⟩) [[a,b],[c,d]]:=fun i hi=>by
 have h3:i=0∨i=1:=by simp at hi;omega
 rcases h3 with rfl|rfl
 ·exact ⟨g,0,_,2,rfl,by rw [Nat.zero_add];exact h.cell 0 (by simp),Nat.le_refl _,ints2 h0⟩
 ·exact ⟨g,0,_,2,rfl,by rw [Nat.zero_add];exact h.cell 1 (by simp),Nat.le_refl _,ints2 h1⟩
theorem ex_hermite {w w':World} {v:Value} {rows:Lt} (h:HermiteV w w' v [[4,6],[6,9]] 2 rows):∃ gr c g,v=.slice (some ⟨gr,0,none⟩) 1 c∧w'.cell? ⟨gr,0,none⟩=some (.slice (some ⟨g,0,none⟩) 2 2)∧IBlk w' g [2,3]:=by
 have hr:=ex_rows h.ech h.red h.gen
 have hg:=h.grid
 rw [hr] at hg
 obtain ⟨gs,h1,h2,-,h3⟩:=hg.ex
 match gs,h1 with
 | [g],_ =>
   obtain ⟨hf,_,hI⟩:=h3 0 (by simp)
   rcases h2.2 with ⟨-,h0⟩|⟨gr,cap,cur,rfl,_⟩
   ·simp at h0
   ·have hI2:IBlk w' g (intsTo (nth [2,3]) 2 2):=hI
    rw [show intsTo (nth [2,3]) 2 2=[2,3] by
     show [wrap64 (nth [2,3] 0),wrap64 (nth [2,3] 1)]=[2,3]
     rw [wrap64_small (by decide),wrap64_small (by decide)];rfl] at hI2
    refine ⟨gr,cap,g,rfl,?_,hI2⟩
    rw [h2.cellAt 0 (by simp)];rfl
set_option maxRecDepth 100000 in
set_option maxHeartbeats 4000000 in
theorem alive_calls (w:World) (hc:TabOk 0 costsO w) :
 Calls Tryz.prog 15 #[] w fun e w'=>e=.returned (.bool true)∧Below w.heap.size w w':=by
 obtain ⟨g0,hg0⟩:∃ g0,w.heap.size=g0:=⟨_,rfl⟩
 obtain ⟨wa,hwa⟩:∃ wa,w.alloc (.cells #[.int .i64 4,.int .i64 6] 3 (0,0))=wa:=⟨_,rfl⟩
 obtain ⟨wb,hwb⟩:∃ wb,wa.alloc (.cells #[.int .i64 6,.int .i64 9] 3 (0,0))=wb:=⟨_,rfl⟩
 obtain ⟨wc,hwc⟩:∃ wc,wb.alloc (.cells #[.slice (some ⟨g0,0,none⟩) 2 2,.slice (some ⟨g0+1,0,none⟩) 2 2] 23 (0,0))=wc:=⟨_,rfl⟩
 have sa:wa.heap.size=g0+1:=by rw [←hwa];simp [hg0]
 have sb:wb.heap.size=g0+1+1:=by rw [←hwb];simp [sa]
 have ba:Blk wa g0 [.int .i64 4,.int .i64 6] 3:=by rw [←hwa,←hg0];exact Blk.new _ _ _
 have bb:Blk wb (g0+1) [.int .i64 6,.int .i64 9] 3:=by rw [←hwb,←sa];exact Blk.new _ _ _
 have bc:Blk wc (g0+1+1) [.slice (some ⟨g0,0,none⟩) 2 2,.slice (some ⟨g0+1,0,none⟩) 2 2] 23:=by rw [←hwc,←sb];exact Blk.new _ _ _
 have eb:Below wa.heap.size wa wb:=by rw [←hwb];exact (Below.refl _ _).alloc (Nat.le_refl _) _
 have ec:Below wb.heap.size wb wc:=by rw [←hwc];exact (Below.refl _ _).alloc (Nat.le_refl _) _
 have ea:Below w.heap.size w wa:=by rw [←hwa];exact (Below.refl _ _).alloc (Nat.le_refl _) _
 have e3:Below w.heap.size w wc:=(ea.trans (eb.mono (by omega))).trans (ec.mono (by omega))
 have hgr:=grid2 bc ((ba.ext eb).ext ec) (bb.ext ec)
 have hh:Calls Tryz.prog 31 #[.slice (some ⟨g0+1+1,0,none⟩) 2 2,.int .i64 2] wc fun e w'=>∃ v rows,e=.returned (.tuple #[v,.int .i64 0])∧HermiteV wc w' v [[4,6],[6,9]] 2 rows:=hermite_good _ 2 2 [[4,6],[6,9]] wc hgr (by decide)
 have HH:=hid hh;have HE3:=hid e3;have HC:=hid hc
 clear hh hgr ba bb bc eb ec ea e3 hc
 have HW:=hid (And.intro hwa (And.intro hwb hwc));have HS:=hid (And.intro sa sb)
 have HG:=hid hg0
 clear hwa hwb hwc sa sb hg0
 go_enter Tryz.func15,Tryz.ntmps15
 go_wp2_with fail
 rw [HG.out,HW.out.1,HW.out.2.1,HW.out.2.2]
 refine HH.out.mono ?_;rintro e w1 ⟨v,rows,rfl,hv⟩
 obtain ⟨gr,cr,g,rfl,hgc,hgi⟩:=ex_hermite hv
 have HB1:=hid (HE3.out.trans (hv.below.mono HE3.out.size));have HGC:=hid hgc;have HGI:=hid hgi
 clear hv hgc hgi HH HW HS HG
 obtain ⟨k0,hk0⟩:∃ k0,w1.heap.size=k0:=⟨_,rfl⟩
 obtain ⟨va,hva⟩:∃ va,w1.alloc (.cells #[.int .i64 1,.int .i64 2] 3 (0,0))=va:=⟨_,rfl⟩
 obtain ⟨vb,hvb⟩:∃ vb,va.alloc (.cells #[.int .i64 3,.int .i64 1] 3 (0,0))=vb:=⟨_,rfl⟩
 obtain ⟨vc,hvc⟩:∃ vc,vb.alloc (.cells #[.slice (some ⟨k0,0,none⟩) 2 2,.slice (some ⟨k0+1,0,none⟩) 2 2] 23 (0,0))=vc:=⟨_,rfl⟩
 obtain ⟨vd,hvd⟩:∃ vd,vc.alloc (.cells #[.int .i64 4,.int .i64 6] 3 (0,0))=vd:=⟨_,rfl⟩
 obtain ⟨ve,hve⟩:∃ ve,vd.alloc (.cells #[.int .i64 1,.int .i64 1] 3 (0,0))=ve:=⟨_,rfl⟩
 have sa:va.heap.size=k0+1:=by rw [←hva];simp [hk0]
 have sb:vb.heap.size=k0+1+1:=by rw [←hvb];simp [sa]
 have sc:vc.heap.size=k0+1+1+1:=by rw [←hvc];simp [sb]
 have sd:vd.heap.size=k0+1+1+1+1:=by rw [←hvd];simp [sc]
 have ba:Blk va k0 [.int .i64 1,.int .i64 2] 3:=by rw [←hva,←hk0];exact Blk.new _ _ _
 have bb:Blk vb (k0+1) [.int .i64 3,.int .i64 1] 3:=by rw [←hvb,←sa];exact Blk.new _ _ _
 have bc:Blk vc (k0+1+1) [.slice (some ⟨k0,0,none⟩) 2 2,.slice (some ⟨k0+1,0,none⟩) 2 2] 23:=by rw [←hvc,←sb];exact Blk.new _ _ _
 have bd:Blk vd (k0+1+1+1) [.int .i64 4,.int .i64 6] 3:=by rw [←hvd,←sc];exact Blk.new _ _ _
 have be:Blk ve (k0+1+1+1+1) [.int .i64 1,.int .i64 1] 3:=by rw [←hve,←sd];exact Blk.new _ _ _
 have ea:Below w1.heap.size w1 va:=by rw [←hva];exact (Below.refl _ _).alloc (Nat.le_refl _) _
 have eb:Below va.heap.size va vb:=by rw [←hvb];exact (Below.refl _ _).alloc (Nat.le_refl _) _
 have ec:Below vb.heap.size vb vc:=by rw [←hvc];exact (Below.refl _ _).alloc (Nat.le_refl _) _
 have ed:Below vc.heap.size vc vd:=by rw [←hvd];exact (Below.refl _ _).alloc (Nat.le_refl _) _
 have ee:Below vd.heap.size vd ve:=by rw [←hve];exact (Below.refl _ _).alloc (Nat.le_refl _) _
 have e15:Below w1.heap.size w1 ve:=(((ea.trans (eb.mono (by omega))).trans (ec.mono (by omega))).trans (ed.mono (by omega))).trans (ee.mono (by omega))
 have hgr:=grid2 ((bc.ext ed).ext ee) ((((ba.ext eb).ext ec).ext ed).ext ee) (((bb.ext ec).ext ed).ext ee)
 have hp3:Prog3 ve (some ⟨k0+1+1,0,none⟩) (some ⟨k0+1+1+1,0,none⟩) (some ⟨k0+1+1+1+1,0,none⟩) exA [4,6] [1,1]:=⟨hgr,ints2 (bd.ext ee),ints2 be,by decide,by decide,by decide,by decide⟩
 have hmin:Calls Tryz.prog 16 #[.agg #[.slice (some ⟨k0+1+1,0,none⟩) 2 2,.slice (some ⟨k0+1+1+1,0,none⟩) 2 2,.slice (some ⟨k0+1+1+1+1,0,none⟩) 2 2]] ve fun e w'=>OfPost exA [4,6] [1,1] 0 costsO true ve w' e∧Below ve.heap.size ve w' :=
  minimum_calls _ _ _ 2 2 2 exA [4,6] [1,1] ve hp3 (HC.out.ext (HB1.out.trans (e15.mono HB1.out.size)))
 have HM:=hid hmin
 have HB2:=hid (HB1.out.trans (e15.mono HB1.out.size));have HGC2:=hid (((bcell e15).1 _ _ (cell_lt HGC.out)).trans HGC.out);have HGI2:=hid (Blk.ext HGI.out e15)
 clear hp3 hmin hgr ba bb bc bd be ea eb ec ed ee e15 sa sb sc sd HB1 HGC HGI HE3 HC
 have HV:=hid (And.intro hva (And.intro hvb (And.intro hvc (And.intro hvd hve))));have HK:=hid hk0
 clear hva hvb hvc hvd hve hk0
 go_wp2_with fail
 rw [HK.out,HV.out.1,HV.out.2.1,HV.out.2.2.1,HV.out.2.2.2.1,HV.out.2.2.2.2]
 refine HM.out.mono ?_;rintro e w2 ⟨hpost,hb2⟩
 obtain ⟨pg,rfl,hpi⟩:∃ pg,e=.returned (.tuple #[.agg #[.slice (some ⟨pg,0,none⟩) 2 2,.int .i64 5],.int .i64 0])∧IBlk w2 pg [8,6]:=by
  rcases hpost with ⟨h1,-⟩|⟨-,s,x,y,hs3,hq,h5⟩
  ·exact absurd h1 (by decide)
  ·have hs0:s=0∧EndFound (qA exA) (qB [4,6]) (qB [1,1]) 2 2 x y:=by
    rcases hq with ⟨e,h,-⟩|⟨-,h,-⟩|⟨-,h,-⟩
    ·exact ⟨e,h⟩
    ·exact (ex_empty h).elim
    ·exact (ex_free h).elim
   obtain ⟨rfl,hf⟩:=hs0
   obtain ⟨x0,x1⟩:=ex_found hf
   rcases h5 with ⟨h5,-⟩|⟨-,pg,xs,d,h6,-,h8,h9⟩
   ·exact absurd rfl h5
   ·obtain ⟨rfl,rfl⟩:=ex_point h9 x0 x1
    exact ⟨pg,h6,h8⟩
 have HB3:=hid (HB2.out.trans (hb2.mono HB2.out.size));have HGC3:=hid (((bcell hb2).1 _ _ (cell_lt HGC2.out)).trans HGC2.out);have HGI3:=hid (Blk.ext HGI2.out hb2);have HPI:=hid hpi
 clear hpost hb2 hpi HM HV HK HB2 HGC2 HGI2
 have HGG:=hid (IBlk.ints (show IBlk w2 g [2,3] from HGI3.out));have HPP:=hid (HPI.out.ints)
 have hgc:=HGC3.out
 have hA1:Below w2.heap.size w2 (w2.alloc (.cells #[.slice (some ⟨pg,0,none⟩) 2 2,.int .i64 5] 29 (0,0))):=(Below.refl _ _).alloc (Nat.le_refl _) _
 obtain ⟨w3,hw3⟩:∃ w3,w2.alloc (.cells #[.slice (some ⟨pg,0,none⟩) 2 2,.int .i64 5] 29 (0,0))=w3:=⟨_,rfl⟩
 rw [hw3] at hA1
 have bp:Blk w3 w2.heap.size [.slice (some ⟨pg,0,none⟩) 2 2,.int .i64 5] 29:=by rw [←hw3];exact Blk.new _ _ _
 obtain ⟨w4,hw4⟩:∃ w4,w3.alloc (.cells #[.int .i64 2,.int .i64 3] 3 (0,0))=w4:=⟨_,rfl⟩
 have hA2:Below w3.heap.size w3 w4:=by rw [←hw4];exact (Below.refl _ _).alloc (Nat.le_refl _) _
 have b23:Blk w4 w3.heap.size [.int .i64 2,.int .i64 3] 3:=by rw [←hw4];exact Blk.new _ _ _
 have hsame:Calls Tryz.prog 36 #[.slice (some ⟨g,0,none⟩) 2 2,.slice (some ⟨w3.heap.size,0,none⟩) 2 2] w4 fun e w'=>e=.returned (.bool (sameB [2,3] [2,3]))∧∃ k,w'=w4.drewN k:=same_calls _ _ 2 2 [2,3] [2,3] w4 (by decide) (by decide) ((HGG.out.ext hA1).ext hA2) (ints2 b23)
 rw [show sameB [2,3] [2,3]=true by decide] at hsame
 have HS1:=hid hsame
 have hgc3:=((bcell hA1).1 _ _ (cell_lt hgc)).trans hgc
 have HW3:=hid hw3;have HW4:=hid hw4;have HA1:=hid hA1;have HA2:=hid hA2;have HBP:=hid bp
 rw [←hw3] at hgc3
 clear hgc hA1 hA2 bp b23 hsame hw3 hw4
 have hsz3:w2.heap.size+1=w3.heap.size:=by rw [←HW3.out];simp
 go_wp2_with fail
 rw [HW3.out,HW4.out]
 refine HS1.out.mono ?_;rintro e w5 ⟨rfl,kd,hw5⟩
 have e45:Below w4.heap.size w4 w5:=by rw [hw5];exact drewN_below _ _
 have bp5:=(HBP.out.ext HA2.out).ext e45
 obtain ⟨pp,hpp⟩:∃ pp,w2.heap.size=pp:=⟨_,rfl⟩
 rw [hpp] at bp5 ⊢
 have c0:=bp5.cell 0 (by simp)
 have c1:=bp5.cell 1 (by simp)
 simp only [List.getElem_cons_zero,List.getElem_cons_succ] at c0 c1
 have e25:Below w2.heap.size w2 w5:=(HA1.out.trans (HA2.out.mono HA1.out.size)).trans (e45.mono (by have:=HA1.out.size;have:=HA2.out.size;omega))
 obtain ⟨w6,hw6⟩:∃ w6,w5.alloc (.cells #[.int .i64 8,.int .i64 6] 3 (0,0))=w6:=⟨_,rfl⟩
 have hA6:Below w5.heap.size w5 w6:=by rw [←hw6];exact (Below.refl _ _).alloc (Nat.le_refl _) _
 have b86:Blk w6 w5.heap.size [.int .i64 8,.int .i64 6] 3:=by rw [←hw6];exact Blk.new _ _ _
 have hsame:Calls Tryz.prog 36 #[.slice (some ⟨pg,0,none⟩) 2 2,.slice (some ⟨w5.heap.size,0,none⟩) 2 2] w6 fun e w'=>e=.returned (.bool (sameB [8,6] [8,6]))∧∃ k,w'=w6.drewN k:=same_calls _ _ 2 2 [8,6] [8,6] w6 (by decide) (by decide) ((HPP.out.ext e25).ext hA6) (ints2 b86)
 rw [show sameB [8,6] [8,6]=true by decide] at hsame
 have HS2:=hid hsame
 have HB6:=hid ((HB3.out.trans (e25.mono HB3.out.size)).trans (hA6.mono (by have:=HB3.out.size;have:=e25.size;omega)))
 have HW6:=hid hw6
 clear hw5 e45 bp5 hpp e25 hA6 b86 hsame hgc3 hsz3 HS1 hw6
 go_wp2_with fail
 rw [HW6.out]
 refine HS2.out.mono ?_;rintro e w7 ⟨rfl,kd2,hw7⟩
 have HB7:Hid (Below w.heap.size w w7):=hid (by rw [hw7];exact HB6.out.trans ((drewN_below w6 kd2).mono HB6.out.size))
 clear hw7 c0 c1
 go_wp2
 go_ret
 exact ⟨rfl,HB7.out⟩
end
end Go.Proofs.YtkljafmdbajfeaaGreatDoor
