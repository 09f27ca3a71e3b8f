/- The reference's whole numbers: Of, cmpD. -/
import Derived.Test.YtkljafmdbajfeaaGreatDoorNoH01
namespace Go.Proofs.YtkljafmdbajfeaaGreatDoor
set_option linter.unusedVariables false
set_option linter.unusedSimpArgs false
open Go.Lib (hid)
section
open Go.RowKit
theorem ofD_step {a q:Nat} {ds:List Nat} (h:a=T.val ds+10000 ^ ds.length*q):a=T.val (ds ++ [q % 10000])+10000 ^ (ds ++ [q % 10000]).length*(q / 10000):=by
 rw [T.val_append,List.length_append,List.length_singleton,Nat.pow_succ,Nat.mul_assoc,Nat.add_assoc,←Nat.mul_add]
 have:T.val [q % 10000]+10000*(q / 10000)=q:=by simp [T.val];omega
 rw [this];exact h
theorem ofD_len {a q:Nat} {ds:List Nat} (h:a=T.val ds+10000 ^ ds.length*q) (hq:0<q) (ha:a≤9223372036854775808) (h5:ds.length≤5):ds.length≤4:=by
 rcases Nat.lt_or_ge ds.length 5 with h1|h1
 ·omega
 ·have e:ds.length=5:=by omega
  rw [e] at h
  have:10000 ^ 5*1≤10000 ^ 5*q:=Nat.mul_le_mul_left _ hq
  omega
theorem dig_snoc {ds:List Nat} (h:T.Dig ds) (q:Nat):T.Dig (ds ++ [q % 10000]):=fun d hd=>by
 rcases List.mem_append.1 hd with h1|h1
 ·exact h d h1
 ·obtain rfl:d=q % 10000:=by simpa using h1
  exact Nat.mod_lt _ (by omega)
theorem ofD_done {a:Nat} {ds:List Nat} (h:a=T.val ds+10000 ^ ds.length*0):T.val ds=a:=by omega
theorem tmod_neg (q:Nat):(-(q:Int)).tmod 10000 = -((q % 10000:Nat):Int):=by
 rw [Int.neg_tmod];congr 1
theorem tdiv_neg (q:Nat):(-(q:Int)).tdiv 10000 = -((q / 10000:Nat):Int):=by
 rw [Int.neg_tdiv];congr 1
theorem new_cell (w:World) (T:TypeId) (x:Value):∀ (j:Nat) (u:Value),[x][j]? = some u→(w.alloc (.cells #[x] T (0,0))).cell? (Addr.add ⟨w.heap.size,0,none⟩ j)=some u:=fun j u h=>by
 rcases j with _|j
 ·simp at h;subst h;exact (Blk.new w [x] T).cell 0 (by simp)
 ·simp at h
theorem one_cell (k:IntKind) (n:Int):∀ u∈[Value.int k n],u.oneCell'=true:=fun u h=>by
 obtain rfl:u=.int k n:=by simpa using h
 rfl
set_option maxRecDepth 100000 in
theorem wp_snoc {ops:Array Oper} {rest:List Oper} {o:Oper} {a:Act} {Q:Exit→Act→World→Prop} (hgd:o.guard=none) (s x:Operand)
 (ho:o.op=.call { callee:=.builtin .append,args:=#[s,x],argTypes:=#[23,23] }) {wr:World} {base:Nat} {v:Value} {ds:List Nat} {d:Nat} {z:Int} (hs:a.eval s=v)
 (hx:a.eval x=.slice (some ⟨wr.heap.size,0,none⟩) 1 1) (hown:OwnD wr base v ds) (hz:z=(d:Nat)) (hl:ds.length≤10000000000000) (hb:base≤wr.heap.size)
 (h:∀ v' w',Hid (OwnD w' base v' (ds ++ [d]))→Hid (∀ (B:Nat) (w0:World),Below B w0 wr→B≤base→Below B w0 w')→wpList Tryz.prog ops Q rest (a.put o.dst v') w') :
 wpList Tryz.prog ops Q (o :: rest) a (wr.alloc (.cells #[.int .i64 z] 3 (0,0))):=by
 subst hz
 obtain ⟨i0,hi,hz0,hz1,hz2⟩:=info_parts infoInt
 refine wpList_append_own _ hgd s x 23 ho base 3 i0 (.int .i64 0) 1 8 Tryz.underlying23 hi hz0 hz1 hz2 rfl (by decide) v ds.length _ hs (World.ownsRow.alloc hown _) ⟨wr.heap.size,0,none⟩ 1 1 [.int .i64 (d:Nat)] hx rfl (new_cell _ _ _) (one_cell _ _) (by unfold maxLen;omega) (by omega) (by simp;omega) ?_
 intro v' w' h1 hg _
 refine h v' w' (hid (by unfold OwnD;rw [List.length_append,List.map_append];exact h1)) (hid fun B w0 hB hBb=>?_)
 refine ((hB.alloc (by omega) _).grown hg (by simp;omega) fun k hk=>?_)
 have:=(World.ownsRow.lt hown k hk).1
 omega
set_option maxRecDepth 100000 in
set_option maxHeartbeats 1000000 in
theorem rOf_pos (a:Nat) (w:World) (ha:a≤9223372036854775807) :
 Calls Tryz.prog 45 #[.int .i64 a] w fun e w'=>∃ v,e=.returned v∧RBo w' w.heap.size v a∧Below w.heap.size w w':=by
 obtain ⟨i0,hi,hz0,hz1,hz2⟩:=info_parts infoInt
 have B0:=Blk.new w [.bool false,.slice none 0 0] 61
 have ha2:(a:Int)≤9223372036854775807:=by omega
 go_enter Tryz.func45,Tryz.ntmps45
 go_wp2
 go_loopw [0,3,5] (fun n v _ wr=>∃ (q:Nat) (ds:List Nat),n=.int .i64 q∧q≤a∧Hid (a=T.val ds+10000 ^ ds.length*q)∧ds.length≤5∧T.Dig ds∧OwnD wr (w.heap.size+1) v ds∧Below (w.heap.size+1) (w.alloc (.cells #[.bool false,.slice none 0 0] 61 (0,0))) wr) (fun n _ _ _=>(intOf n).toNat)
 case atStart=>exact ⟨a,[],rfl,Nat.le_refl _,hid (by simp [T.val]),by simp,fun d hd=>by simp at hd,OwnD.nil _ _,Below.refl _ _⟩
 case round =>
  obtain ⟨q,ds,rfl,hqa,hval,hl5,hdig,hown,hbe⟩:=hrel
  by_cases hq:q=0
  ·subst hq
   have hva:=ofD_done hval.out
   obtain ⟨A,c,rfl,hc,hcm,hR⟩:=hown.rsl
   have hwh:=rwhole_calls false A c ds wr (by omega) hdig hR
   rw [hva] at hwh
   have B1:=B0.below hbe (by simp)
   have c0:=B1.cell 0 (by simp);have c1:=B1.cell 1 (by simp)
   simp only [List.getElem_cons_zero,List.getElem_cons_succ] at c0 c1
   have bs:=hbe.size
   simp at bs
   have HBE:Hid (Below w.heap.size w wr):=hid (((Below.refl _ w).alloc (Nat.le_refl _) _).trans (hbe.mono (by omega)))
   have HB1:=hid B1
   clear hval hva hdig hown hR hbe B0 B1 hc hcm
   go_wp2_with fail
   refine hwh.mono ?_;rintro e w1 ⟨v,rfl,⟨sl,rfl,ho⟩,hb1⟩
   have B2:=HB1.out.ext hb1
   have c0:=B2.cell 0 (by simp);have c1:=B2.cell 1 (by simp)
   simp only [List.getElem_cons_zero,List.getElem_cons_succ] at c0 c1
   have f0:=B2.free 0;have f1:=B2.free 1
   have bl:=B2.lt
   have HX:=hid (HBE.out.trans (hb1.mono HBE.out.size))
   obtain ⟨A2,k2,rfl,-,-,-⟩:=ho.rsl
   have HO:=hid ho
   rw [show decide (sgnd false a<0)=false from by rw [sgnd_neg];rfl]
   generalize (T.digits (sgnd false a).natAbs).length=L2 at *
   clear hwh hb1 B2 ho
   go_wp2_with fail
   try simp only [Exit.inBlock,Exit.then]
   refine bodyPost_ret (v:=.agg #[.bool false,.slice A2 L2 k2]) (by simp [results,Tryz.results45,go_sem,bl,c0,c1]) rfl ⟨_,rfl,⟨_,by simp;rfl,?_⟩,(HX.out.setCell (Nat.le_refl _) _).setCell (Nat.le_refl _) _⟩
   have:=HO.out
   rw [sgnd_abs] at this
   exact ((this.set _ _ (by dsimp only;omega)).set _ _ (by dsimp only;omega)).mono (by omega)
  ·have hl4:=ofD_len hval.out (by omega) (by omega) hl5
   have hq0:((q:Int) != 0)=true:=by simp;omega
   have hstep:=hid (ofD_step hval.out)
   have hd2:=dig_snoc hdig q
   have e1:((q % 10000:Nat):Int)=(q:Int) % 10000:=by omega
   have e2:((q / 10000:Nat):Int)=(q:Int) / 10000:=by omega
   have E1:=hid e1;have E2:=hid e2;have HD2:=hid hd2;have HQ:=hid hq
   clear hval hdig e1 e2 hd2 hq
   have hbs:=hbe.size
   simp at hbs
   have HB:=hid hbe
   clear hbe
   go_wp2_with (at_builtin;refine wp_snoc rfl _ _ rfl rfl rfl hown E1.out.symm (by omega) (by omega) ?_)
   intro v' w1 ho hb
   have HB2:=hid (hb.out _ _ HB.out (Nat.le_refl _))
   clear hown hb HB hbs
   go_wp2
   go_roundw
   case rel=>exact ⟨q / 10000,_,by rw [E2.out],by omega,hstep,by simp;omega,HD2.out,ho.out,HB2.out⟩
   case measure=>have:=HQ.out;simp [intOf];omega
set_option maxRecDepth 100000 in
set_option maxHeartbeats 1000000 in
theorem rOf_neg (a:Nat) (w:World) (h0:0<a) (ha:a≤9223372036854775808) :
 Calls Tryz.prog 45 #[.int .i64 (-(a:Int))] w fun e w'=>∃ v,e=.returned v∧RBo w' w.heap.size v (-(a:Int))∧Below w.heap.size w w':=by
 obtain ⟨i0,hi,hz0,hz1,hz2⟩:=info_parts infoInt
 have B0:=Blk.new w [.bool false,.slice none 0 0] 61
 have ha2:(a:Int)≤9223372036854775808:=by omega
 have ha3:decide (-(a:Int)<0)=true:=decide_eq_true (by omega)
 go_enter Tryz.func45,Tryz.ntmps45
 go_wp2
 go_loopw [0,3,5] (fun n v _ wr=>∃ (q:Nat) (ds:List Nat),n=.int .i64 (-(q:Int))∧q≤a∧Hid (a=T.val ds+10000 ^ ds.length*q)∧ds.length≤5∧T.Dig ds∧OwnD wr (w.heap.size+1) v ds∧Below (w.heap.size+1) (w.alloc (.cells #[.bool false,.slice none 0 0] 61 (0,0))) wr) (fun n _ _ _=>(-(intOf n)).toNat)
 case atStart=>exact ⟨a,[],rfl,Nat.le_refl _,hid (by simp [T.val]),by simp,fun d hd=>by simp at hd,OwnD.nil _ _,Below.refl _ _⟩
 case round =>
  obtain ⟨q,ds,rfl,hqa,hval,hl5,hdig,hown,hbe⟩:=hrel
  by_cases hq:q=0
  ·subst hq
   have hva:=ofD_done hval.out
   obtain ⟨A,c,rfl,hc,hcm,hR⟩:=hown.rsl
   have hwh:=rwhole_calls true A c ds wr (by omega) hdig hR
   rw [hva] at hwh
   have B1:=B0.below hbe (by simp)
   have c0:=B1.cell 0 (by simp);have c1:=B1.cell 1 (by simp)
   simp only [List.getElem_cons_zero,List.getElem_cons_succ] at c0 c1
   have bs:=hbe.size
   simp at bs
   have HBE:Hid (Below w.heap.size w wr):=hid (((Below.refl _ w).alloc (Nat.le_refl _) _).trans (hbe.mono (by omega)))
   have HB1:=hid B1
   clear hval hva hdig hown hR hbe B0 B1 hc hcm
   go_wp2_with fail
   refine hwh.mono ?_;rintro e w1 ⟨v,rfl,⟨sl,rfl,ho⟩,hb1⟩
   have B2:=HB1.out.ext hb1
   have c0:=B2.cell 0 (by simp);have c1:=B2.cell 1 (by simp)
   simp only [List.getElem_cons_zero,List.getElem_cons_succ] at c0 c1
   have f0:=B2.free 0;have f1:=B2.free 1
   have bl:=B2.lt
   have HX:=hid (HBE.out.trans (hb1.mono HBE.out.size))
   obtain ⟨A2,k2,rfl,-,-,-⟩:=ho.rsl
   have HO:=hid ho
   rw [show decide (sgnd true a<0)=true from by rw [sgnd_neg];simp;omega]
   generalize (T.digits (sgnd true a).natAbs).length=L2 at *
   clear hwh hb1 B2 ho
   go_wp2_with fail
   try simp only [Exit.inBlock,Exit.then]
   refine bodyPost_ret (v:=.agg #[.bool true,.slice A2 L2 k2]) (by simp [results,Tryz.results45,go_sem,bl,c0,c1]) rfl ⟨_,rfl,⟨_,by rw [decide_eq_true (by omega : -(a:Int)<0)],?_⟩,(HX.out.setCell (Nat.le_refl _) _).setCell (Nat.le_refl _) _⟩
   rw [Int.natAbs_neg,Int.natAbs_natCast]
   have:=HO.out
   rw [sgnd_abs] at this
   exact ((this.set _ _ (by dsimp only;omega)).set _ _ (by dsimp only;omega)).mono (by omega)
  ·have hl4:=ofD_len hval.out (by omega) (by omega) hl5
   have hq0:(-(q:Int) != 0)=true:=by simp;omega
   have hstep:=hid (ofD_step hval.out)
   have hd2:=dig_snoc hdig q
   have e2:(-(q:Int)).tdiv 10000 = -((q / 10000:Nat):Int):=tdiv_neg q
   have e1:(-(q:Int)).tmod 10000 = -((q % 10000:Nat):Int):=tmod_neg q
   have h1:q % 10000<10000:=Nat.mod_lt _ (by omega)
   have h2:q / 10000<q:=Nat.div_lt_self (by omega) (by omega)
   have HD2:=hid hd2;have HQ:=hid hq
   have hbs:=hbe.size
   simp at hbs
   have HB:=hid hbe
   generalize q % 10000=r at *
   generalize q / 10000=q2 at *
   have hbd:(0:Int)≤q∧(q:Int)≤9223372036854775808∧(0:Int)≤q2∧(q2:Int)≤9223372036854775808:=by omega
   clear hval hdig hd2 hq hbe
   by_cases hr:r=0
   ·subst hr
    rw [show -((0:Nat):Int)=0 from rfl] at e1
    go_wp2_with (at_builtin;refine wp_snoc (d:=0) rfl _ _ rfl rfl rfl hown rfl (by omega) (by omega) ?_)
    intro v' w1 ho hb
    have HB2:=hid (hb.out _ _ HB.out (Nat.le_refl _))
    clear hown hb HB hbs
    go_wp2
    go_roundw
    case rel=>exact ⟨q2,_,rfl,by omega,hstep,by simp;omega,HD2.out,ho.out,HB2.out⟩
    case measure=>have:=HQ.out;simp [intOf];omega
   ·have hr0:decide (-(r:Int)<0)=true:=decide_eq_true (by omega)
    go_wp2_with (at_builtin;refine wp_snoc (d:=r) rfl _ _ rfl rfl rfl hown (by simp) (by omega) (by omega) ?_)
    intro v' w1 ho hb
    have HB2:=hid (hb.out _ _ HB.out (Nat.le_refl _))
    clear hown hb HB hbs
    go_wp2
    go_roundw
    case rel=>exact ⟨q2,_,rfl,by omega,hstep,by simp;omega,HD2.out,ho.out,HB2.out⟩
    case measure=>have:=HQ.out;simp [intOf];omega
theorem rOf_calls (z:Int) (w:World) (h : -9223372036854775808≤z∧z≤9223372036854775807) :
 Calls Tryz.prog 45 #[.int .i64 z] w fun e w'=>∃ v,e=.returned v∧RBo w' w.heap.size v z∧Below w.heap.size w w':=by
 rcases Int.lt_or_le z 0 with hz|hz
 ·obtain ⟨a,rfl⟩:∃ a:Nat,z = -(a:Int):=⟨z.natAbs,by omega⟩
  exact rOf_neg a w (by omega) (by omega)
 ·obtain ⟨a,rfl⟩:∃ a:Nat,z=a:=⟨z.toNat,by omega⟩
  exact rOf_pos a w (by omega)
end
section
open Go.RowKit
set_option maxHeartbeats 1000000 in
theorem rcmpD_calls (A B:Option Addr) (ca cb:Nat) (n m:Nat) (w:World) (hn:(T.digits n).length≤maxLen) (hm:(T.digits m).length≤maxLen) (hA:Rds w A (T.digits n)) (hB:Rds w B (T.digits m)) :
 Calls Tryz.prog 102 #[.slice A (T.digits n).length ca,.slice B (T.digits m).length cb] w fun e w'=>e=.returned (.int .i64 (sgn n m))∧∃ k,w'=w.drewN k:=by
 unfold maxLen at hn hm
 by_cases hl:(T.digits n).length<(T.digits m).length
 ·have hlt:=T.digits_len_lt hl
  have d1:decide ((T.digits n).length<(T.digits m).length)=true:=decide_eq_true (by omega)
  go_enter Tryz.func102,Tryz.ntmps102
  go_wp2
  go_ret
  exact ⟨by rw [sgn_lt hlt];rfl,0,rfl⟩
 ·have d1:decide ((T.digits n).length<(T.digits m).length)=false:=decide_eq_false (by omega)
  by_cases hg:(T.digits m).length<(T.digits n).length
  ·have hlt:=T.digits_len_lt hg
   have d2:decide ((T.digits m).length<(T.digits n).length)=true:=decide_eq_true (by omega)
   go_enter Tryz.func102,Tryz.ntmps102
   go_wp2
   go_ret
   exact ⟨by rw [sgn_gt hlt];rfl,0,rfl⟩
  ·have d2:decide ((T.digits m).length<(T.digits n).length)=false:=decide_eq_false (by omega)
   have he:(T.digits n).length=(T.digits m).length:=by omega
   have HE:=hid he;clear he hl hg
   go_enter Tryz.func102,Tryz.ntmps102
   go_wp2
   go_loopw [5] (fun i wr=>∃ j k:Nat,j≤(T.digits n).length∧i=.int .i64 ((j:Int)-1)∧(T.digits n).drop j=(T.digits m).drop j∧wr=w.drewN k) (fun i _=>(intOf i+1).toNat)
   case atStart=>exact ⟨(T.digits n).length,0,Nat.le_refl _,rfl,by rw [List.drop_length,HE.out,List.drop_length],rfl⟩
   case round =>
    obtain ⟨j,k,hj,rfl,hdr,rfl⟩:=hrel
    have HD:=hid hdr;clear hdr
    cases j with
    | zero =>
      rw [show ((0:Nat):Int)-1 = -1 from rfl]
      have hnm:n=m:=by
       have:=HD.out
       rw [List.drop_zero,List.drop_zero] at this
       rw [←T.val_digits n,this,T.val_digits]
      have HN:=hid hnm;clear hnm
      go_wp2
      go_ret
      exact ⟨by rw [sgn_eq HN.out];rfl,_,rfl⟩
    | succ j =>
      rw [show ((j+1:Nat):Int)-1=j from by omega]
      obtain ⟨b1,o1,rfl,g1⟩:=hA j (by omega)
      obtain ⟨b2,o2,rfl,g2⟩:=hB j (by have:=HE.out;omega)
      have hj0:(0:Int)≤j:=by omega
      have hj1:(j:Int)<(T.digits n).length:=by omega
      have hj2:(j:Int)<(T.digits m).length:=by have:=HE.out;omega
      have hdn:(T.digits n).drop j=nthd (T.digits n) j :: (T.digits n).drop (j+1):=T.drop_nthd (by omega)
      have hdm:(T.digits m).drop j=nthd (T.digits m) j :: (T.digits m).drop (j+1):=T.drop_nthd (by omega)
      have HDN:=hid hdn;have HDM:=hid hdm
      clear hdn hdm
      have hcase:(nthd (T.digits n) j<nthd (T.digits m) j∧sgn n m = -1)∨(nthd (T.digits m) j<nthd (T.digits n) j∧sgn n m=1)∨(nthd (T.digits n) j=nthd (T.digits m) j∧(T.digits n).drop j=(T.digits m).drop j):=by
       rcases Nat.lt_trichotomy (nthd (T.digits n) j) (nthd (T.digits m) j) with h|h|h
       ·have:=T.val_lt_of (T.digits_dig n) HE.out (by omega) HD.out h
        rw [T.val_digits,T.val_digits] at this
        exact .inl ⟨h,sgn_lt this⟩
       ·exact .inr (.inr ⟨h,by rw [HDN.out,HDM.out,h,HD.out]⟩)
       ·have:=T.val_lt_of (T.digits_dig m) HE.out.symm (by have:=HE.out;omega) HD.out.symm h
        rw [T.val_digits,T.val_digits] at this
        exact .inr (.inl ⟨h,sgn_gt this⟩)
      clear HDN HDM HD
      generalize nthd (T.digits n) j=x at *
      generalize nthd (T.digits m) j=y at *
      rcases hcase with ⟨h,hs⟩|⟨h,hs⟩|⟨rfl,hs⟩
      ·have q1:decide (x<y)=true:=decide_eq_true (by omega)
       have HS:=hid hs;clear hs h
       go_wp2_with fail
       go_quiet (fail)
       go_wp2
       go_ret
       exact ⟨by rw [HS.out];rfl,_,by first|rfl|exact drewN_add _ _ _|rw [drewN_add,drewN_add]⟩
      ·have q1:decide (x<y)=false:=decide_eq_false (by omega)
       have q2:decide (y<x)=true:=decide_eq_true (by omega)
       have HS:=hid hs;clear hs h
       go_wp2_with fail
       go_quiet (fail)
       go_wp2_with fail
       go_quiet (fail)
       go_wp2
       go_ret
       exact ⟨by rw [HS.out];rfl,_,by first|rfl|exact drewN_add _ _ _|rw [drewN_add,drewN_add]⟩
      ·have q1:decide (x<x)=false:=decide_eq_false (by omega)
       have HS:=hid hs;clear hs
       go_wp2_with fail
       go_quiet (fail)
       go_wp2_with fail
       go_quiet (fail)
       go_wp2
       go_roundw
       case rel=>exact ⟨j,_,by omega,rfl,HS.out,by first|rfl|exact drewN_add _ _ _|rw [drewN_add,drewN_add]⟩
       case measure=>simp [intOf]
structure AddAt (a b ds:List Nat) (k c:Nat):Prop where
 len:ds.length=k
 dig:T.Dig ds
 c1:c≤1
 val:T.val ds+10000 ^ k*c=T.val (a.take k)+T.val (b.take k)
 le:k≤max a.length b.length∨(k=max a.length b.length+1∧c=0)
theorem rval_take (l:List Nat) (k:Nat):T.val (l.take (k+1))=T.val (l.take k)+10000 ^ k*nthd l k:=by
 by_cases h:k<l.length
 ·have e:l.take (k+1)=l.take k ++ [nthd l k]:=T.take_nthd h
  rw [e,T.val_append,List.length_take,Nat.min_eq_left (by omega)];simp [T.val]
 ·have e:nthd l k=0:=by unfold nthd;rw [List.getD_eq_getElem?_getD,List.getElem?_eq_none (by omega)];rfl
  rw [e,List.take_of_length_le (by omega),List.take_of_length_le (by omega)];simp
theorem rdig_out {l:List Nat} {k:Nat} (h:l.length≤k):nthd l k=0:=by unfold nthd;rw [List.getD_eq_getElem?_getD,List.getElem?_eq_none h];rfl
theorem AddAt.step {a b ds:List Nat} {k c:Nat} (h:AddAt a b ds k c) (ha:T.Dig a) (hb:T.Dig b) (hk:k<a.length∨k<b.length∨0<c) :
 AddAt a b (ds ++ [(c+nthd a k+nthd b k) % 10000]) (k+1) ((c+nthd a k+nthd b k) / 10000):=by
 have x:nthd a k<10000:=ha.nth k
 have y:nthd b k<10000:=hb.nth k
 have hc:=h.c1
 refine ⟨by rw [List.length_append,h.len];rfl,dig_snoc h.dig _,by omega,?_,?_⟩
 ·have hv:=h.val
  rw [T.val_append,h.len,rval_take,rval_take,Nat.pow_succ]
  generalize nthd a k=p at *
  generalize nthd b k=q at *
  generalize 10000 ^ k=P at *
  have e:T.val [(c+p+q) % 10000]+10000*((c+p+q) / 10000)=c+p+q:=by simp [T.val];omega
  have e2:P*T.val [(c+p+q) % 10000]+P*10000*((c+p+q) / 10000)=P*c+P*p+P*q:=by
   rw [Nat.mul_assoc,←Nat.mul_add,e,Nat.mul_add,Nat.mul_add]
  omega
 ·rcases h.le with h1|⟨h1,h2⟩
  ·rcases Nat.lt_or_ge k (max a.length b.length) with h3|h3
   ·exact .inl (by omega)
   ·have h4:k=max a.length b.length:=by omega
    exact .inr ⟨by omega,by rw [rdig_out (l:=a) (by omega),rdig_out (l:=b) (by omega)];omega⟩
  ·exfalso;omega
theorem AddAt.done {a b ds:List Nat} {k c:Nat} (h:AddAt a b ds k c) (hk:¬ (k<a.length∨k<b.length∨0<c)):T.val ds=T.val a+T.val b:=by
 have hv:=h.val
 rw [List.take_of_length_le (by omega),List.take_of_length_le (by omega),show c=0 by omega] at hv
 omega
set_option maxRecDepth 100000 in
set_option maxHeartbeats 2000000 in
theorem raddD_calls (A B:Option Addr) (ca cb:Nat) (a b:List Nat) (w:World) (ha:T.Dig a) (hb:T.Dig b) (hla:a.length≤9000000000000) (hlb:b.length≤9000000000000) (hA:Rds w A a) (hB:Rds w B b) :
 Calls Tryz.prog 135 #[.slice A a.length ca,.slice B b.length cb] w fun e w'=>∃ v ds,e=.returned v∧OwnD w' w.heap.size v ds∧T.Dig ds∧T.val ds=T.val a+T.val b∧ds.length≤max a.length b.length+1∧Below w.heap.size w w':=by
 go_enter Tryz.func135,Tryz.ntmps135
 go_wp2
 go_loopw [5,6,7,8] (fun v c i _ wr=>∃ (k cn:Nat) (ds:List Nat),i=.int .i64 k∧c=.int .i64 cn∧OwnD wr w.heap.size v ds∧AddAt a b ds k cn∧Below w.heap.size w wr) (fun _ _ i _ _=>max a.length b.length+1-(intOf i).toNat)
 case atStart=>exact ⟨0,0,[],rfl,rfl,OwnD.nil _ _,⟨rfl,fun d hd=>by simp at hd,by omega,by simp [T.val],.inl (by omega)⟩,Below.refl _ _⟩
 case round =>
  obtain ⟨k,cn,ds,rfl,rfl,hown,hat,hbe⟩:=hrel
  have hc1:=hat.c1
  have hkm:k≤max a.length b.length+1:=by rcases hat.le with h|h<;>omega
  have hdl:ds.length≤10000000000000:=by rw [hat.len];omega
  have hbs:=hbe.size
  have HAT:=hid hat;have HB:=hid hbe
  have hA':=hA.ext hbe;have hB':=hB.ext hbe
  clear hat hbe
  by_cases h1:k<a.length
  ·obtain ⟨b1,o1,rfl,g1⟩:=hA' k h1
   have x:nthd a k<10000:=ha.nth k
   by_cases h2:k<b.length
   ·obtain ⟨b2,o2,rfl,g2⟩:=hB' k h2
    have y:nthd b k<10000:=hb.nth k
    have hs:=hid (HAT.out.step ha hb (.inl h1))
    have HM:Hid (((cn:Int)+nthd a k+nthd b k) % 10000=((cn+nthd a k+nthd b k) % 10000:Nat)):=hid (by omega)
    have HD:Hid (((cn:Int)+nthd a k+nthd b k) / 10000=((cn+nthd a k+nthd b k) / 10000:Nat)):=hid (by omega)
    have h3:(k:Int)<a.length:=by omega
    have h4:(k:Int)<b.length:=by omega
    clear hA' hB' HAT
    go_wp2_with (at_builtin;refine wp_snoc rfl _ _ rfl rfl rfl hown HM.out (by omega) (by omega) ?_)
    intro v' w1 ho hb2
    have HB2:=hid (hb2.out _ _ HB.out (Nat.le_refl _))
    clear hown hb2 HB hbs
    go_wp2
    go_roundw
    case rel=>exact ⟨k+1,_,_,by go_num,by rw [HD.out],ho.out,hs.out,HB2.out⟩
    case measure=>simp [intOf];omega
   ·have hs:=HAT.out.step ha hb (.inl h1)
    rw [rdig_out (l:=b) (by omega),Nat.add_zero] at hs
    have HS:=hid hs
    have HM:Hid (((cn:Int)+nthd a k) % 10000=((cn+nthd a k) % 10000:Nat)):=hid (by omega)
    have HD:Hid (((cn:Int)+nthd a k) / 10000=((cn+nthd a k) / 10000:Nat)):=hid (by omega)
    have h3:(k:Int)<a.length:=by omega
    have h4:decide (k<b.length)=false:=decide_eq_false (by omega)
    clear hA' hB' HAT hs
    go_wp2_with (at_builtin;refine wp_snoc rfl _ _ rfl rfl rfl hown HM.out (by omega) (by omega) ?_)
    intro v' w1 ho hb2
    have HB2:=hid (hb2.out _ _ HB.out (Nat.le_refl _))
    clear hown hb2 HB hbs
    go_wp2
    go_roundw
    case rel=>exact ⟨k+1,_,_,by go_num,by rw [HD.out],ho.out,HS.out,HB2.out⟩
    case measure=>simp [intOf];omega
  ·have h3:decide (k<a.length)=false:=decide_eq_false (by omega)
   by_cases h2:k<b.length
   ·obtain ⟨b2,o2,rfl,g2⟩:=hB' k h2
    have y:nthd b k<10000:=hb.nth k
    have hs:=HAT.out.step ha hb (.inr (.inl h2))
    rw [rdig_out (l:=a) (by omega),Nat.add_zero] at hs
    have HS:=hid hs
    have HM:Hid (((cn:Int)+nthd b k) % 10000=((cn+nthd b k) % 10000:Nat)):=hid (by omega)
    have HD:Hid (((cn:Int)+nthd b k) / 10000=((cn+nthd b k) / 10000:Nat)):=hid (by omega)
    have h4:(k:Int)<b.length:=by omega
    clear hA' hB' HAT hs
    go_wp2_with (at_builtin;refine wp_snoc rfl _ _ rfl rfl rfl hown HM.out (by omega) (by omega) ?_)
    intro v' w1 ho hb2
    have HB2:=hid (hb2.out _ _ HB.out (Nat.le_refl _))
    clear hown hb2 HB hbs
    go_wp2
    go_roundw
    case rel=>exact ⟨k+1,_,_,by go_num,by rw [HD.out],ho.out,HS.out,HB2.out⟩
    case measure=>simp [intOf];omega
   ·have h4:decide (k<b.length)=false:=decide_eq_false (by omega)
    by_cases h5:0<cn
    ·have hs:=HAT.out.step ha hb (.inr (.inr h5))
     rw [rdig_out (l:=a) (by omega),rdig_out (l:=b) (by omega),Nat.add_zero,Nat.add_zero] at hs
     have HS:=hid hs
     have hkm2:k≤max a.length b.length:=by rcases HAT.out.le with h|h<;>omega
     have HM:Hid ((cn:Int) % 10000=(cn % 10000:Nat)):=hid (by omega)
     have HD:Hid ((cn:Int) / 10000=(cn / 10000:Nat)):=hid (by omega)
     clear hA' hB' HAT hs
     go_wp2_with (at_builtin;refine wp_snoc rfl _ _ rfl rfl rfl hown HM.out (by omega) (by omega) ?_)
     intro v' w1 ho hb2
     have HB2:=hid (hb2.out _ _ HB.out (Nat.le_refl _))
     clear hown hb2 HB hbs
     go_wp2
     go_roundw
     case rel=>exact ⟨k+1,_,_,by go_num,by rw [HD.out],ho.out,HS.out,HB2.out⟩
     case measure=>simp [intOf];omega
    ·have hfin:=hid (HAT.out.done (by omega))
     have HLN:Hid (ds.length≤max a.length b.length+1):=hid (by rw [HAT.out.len];exact hkm)
     obtain rfl:cn=0:=by omega
     clear hA' hB'
     go_wp2
     go_ret
     exact ⟨_,ds,rfl,hown,HAT.out.dig,hfin.out,HLN.out,HB.out⟩
end
section
open Go.RowKit
def sdig (x y c:Nat):Nat:=(x+10000*(if x<y+c then 1 else 0))-(y+c)
def sbor (x y c:Nat):Nat:=if x<y+c then 1 else 0
structure SubAt (a b ds:List Nat) (k c:Nat):Prop where
 len:ds.length=k
 dig:T.Dig ds
 c1:c≤1
 val:T.val ds+T.val (b.take k)=T.val (a.take k)+10000 ^ k*c
theorem SubAt.step {a b ds:List Nat} {k c:Nat} (h:SubAt a b ds k c) (ha:T.Dig a) (hb:T.Dig b):SubAt a b (ds ++ [sdig (nthd a k) (nthd b k) c]) (k+1) (sbor (nthd a k) (nthd b k) c):=by
 have x:nthd a k<10000:=ha.nth k
 have y:nthd b k<10000:=hb.nth k
 have hc:=h.c1
 have e:sdig (nthd a k) (nthd b k) c+nthd b k+c=nthd a k+10000*sbor (nthd a k) (nthd b k) c:=by
  unfold sdig sbor;split<;>omega
 have hd:sdig (nthd a k) (nthd b k) c<10000:=by unfold sdig;split<;>omega
 refine ⟨by rw [List.length_append,h.len];rfl,fun d hd2=>?_,by unfold sbor;split<;>omega,?_⟩
 ·rcases List.mem_append.1 hd2 with h1|h1
  ·exact h.dig d h1
  ·rw [List.mem_singleton.1 h1];exact hd
 ·have hv:=h.val
  rw [T.val_append,h.len,rval_take,rval_take,Nat.pow_succ]
  have e1:T.val [sdig (nthd a k) (nthd b k) c]=sdig (nthd a k) (nthd b k) c:=by simp [T.val]
  rw [e1]
  generalize sdig (nthd a k) (nthd b k) c=d at *
  generalize sbor (nthd a k) (nthd b k) c=r at *
  generalize nthd a k=p at *
  generalize nthd b k=q at *
  generalize 10000 ^ k=P at *
  have e2:P*d+P*q+P*c=P*p+P*10000*r:=by
   rw [←Nat.mul_add,←Nat.mul_add,e,Nat.mul_add,Nat.mul_assoc]
  omega
theorem SubAt.done {a b ds:List Nat} {c:Nat} (h:SubAt a b ds a.length c) (hl:b.length≤a.length) (hv:T.val b≤T.val a):T.trimL ds=T.digits (T.val a-T.val b):=by
 rw [T.trimL_digits h.dig]
 have h4:=h.val
 rw [List.take_length,List.take_of_length_le hl] at h4
 have hlt:=T.val_lt h.dig
 rw [h.len] at hlt
 have hc1:=h.c1
 have hc:c=0:=by
  rcases Nat.lt_or_ge 0 c with h0|h0
  ·have:c=1:=by omega
   subst this;omega
  ·omega
 subst hc
 congr 1;omega
set_option maxRecDepth 100000 in
set_option maxHeartbeats 2000000 in
theorem rsubD_calls (A B:Option Addr) (ca cb:Nat) (a b:List Nat) (w:World) (ha:T.Dig a) (hb:T.Dig b) (hla:a.length≤9000000000000) (hl:b.length≤a.length) (hv:T.val b≤T.val a) (hA:Rds w A a) (hB:Rds w B b) :
 Calls Tryz.prog 136 #[.slice A a.length ca,.slice B b.length cb] w fun e w'=>∃ v,e=.returned v∧OwnD w' w.heap.size v (T.digits (T.val a-T.val b))∧Below w.heap.size w w':=by
 go_enter Tryz.func136,Tryz.ntmps136
 go_wp2
 go_loopw [5,6,7,8] (fun v c i _ wr=>∃ (k cn:Nat) (ds:List Nat),k≤a.length∧i=.int .i64 k∧c=.int .i64 cn∧OwnD wr w.heap.size v ds∧SubAt a b ds k cn∧Below w.heap.size w wr) (fun _ _ i _ _=>a.length-(intOf i).toNat)
 case atStart=>exact ⟨0,0,[],Nat.zero_le _,rfl,rfl,OwnD.nil _ _,⟨rfl,fun d hd=>by simp at hd,by omega,by simp [T.val]⟩,Below.refl _ _⟩
 case round =>
  obtain ⟨k,cn,ds,hk,rfl,rfl,hown,hat,hbe⟩:=hrel
  have hc1:=hat.c1
  have hdl:ds.length≤10000000000000:=by rw [hat.len];omega
  have hbs:=hbe.size
  have HAT:=hid hat;have HB:=hid hbe
  have hA':=hA.ext hbe;have hB':=hB.ext hbe
  clear hat hbe
  by_cases h1:k<a.length
  ·obtain ⟨b1,o1,rfl,g1⟩:=hA' k h1
   have x:nthd a k<10000:=ha.nth k
   have hs:=HAT.out.step ha hb
   by_cases h2:k<b.length
   ·obtain ⟨b2,o2,rfl,g2⟩:=hB' k h2
    have y:nthd b k<10000:=hb.nth k
    have h3:(k:Int)<a.length:=by omega
    have h4:(k:Int)<b.length:=by omega
    by_cases hlt:nthd a k<nthd b k+cn
    ·have e1:sbor (nthd a k) (nthd b k) cn=1:=by unfold sbor;rw [if_pos hlt]
     rw [e1] at hs
     have HS:=hid hs
     have HM:Hid ((nthd a k:Int)-cn-nthd b k+10000=(sdig (nthd a k) (nthd b k) cn:Nat)):=hid (by unfold sdig;rw [if_pos hlt];omega)
     have q1:decide ((nthd a k:Int)-cn-nthd b k<0)=true:=decide_eq_true (by omega)
     clear hA' hB' HAT hs e1
     go_wp2_with (at_builtin;refine wp_snoc rfl _ _ rfl rfl rfl hown HM.out (by omega) (by omega) ?_)
     intro v' w1 ho hb2
     have HB2:=hid (hb2.out _ _ HB.out (Nat.le_refl _))
     clear hown hb2 HB hbs
     go_wp2
     go_roundw
     case rel=>exact ⟨k+1,1,_,by omega,by go_num,rfl,ho.out,HS.out,HB2.out⟩
     case measure=>simp [intOf];omega
    ·have e1:sbor (nthd a k) (nthd b k) cn=0:=by unfold sbor;rw [if_neg hlt]
     rw [e1] at hs
     have HS:=hid hs
     have HM:Hid ((nthd a k:Int)-cn-nthd b k=(sdig (nthd a k) (nthd b k) cn:Nat)):=hid (by unfold sdig;rw [if_neg hlt];omega)
     have q1:decide ((nthd a k:Int)-cn-nthd b k<0)=false:=decide_eq_false (by omega)
     clear hA' hB' HAT hs e1
     go_wp2_with (at_builtin;refine wp_snoc rfl _ _ rfl rfl rfl hown HM.out (by omega) (by omega) ?_)
     intro v' w1 ho hb2
     have HB2:=hid (hb2.out _ _ HB.out (Nat.le_refl _))
     clear hown hb2 HB hbs
     go_wp2
     go_roundw
     case rel=>exact ⟨k+1,0,_,by omega,by go_num,rfl,ho.out,HS.out,HB2.out⟩
     case measure=>simp [intOf];omega
   ·have h3:(k:Int)<a.length:=by omega
    rw [rdig_out (l:=b) (by omega)] at hs
    by_cases hlt:nthd a k<0+cn
    ·have e1:sbor (nthd a k) 0 cn=1:=by unfold sbor;rw [if_pos hlt]
     rw [e1] at hs
     have HS:=hid hs
     have HM:Hid ((nthd a k:Int)-cn+10000=(sdig (nthd a k) 0 cn:Nat)):=hid (by unfold sdig;rw [if_pos hlt];omega)
     have q1:decide ((nthd a k:Int)-cn<0)=true:=decide_eq_true (by omega)
     clear hA' hB' HAT hs e1
     go_wp2_with (at_builtin;refine wp_snoc rfl _ _ rfl rfl rfl hown HM.out (by omega) (by omega) ?_)
     intro v' w1 ho hb2
     have HB2:=hid (hb2.out _ _ HB.out (Nat.le_refl _))
     clear hown hb2 HB hbs
     go_wp2
     go_roundw
     case rel=>exact ⟨k+1,1,_,by omega,by go_num,rfl,ho.out,HS.out,HB2.out⟩
     case measure=>simp [intOf];omega
    ·have e1:sbor (nthd a k) 0 cn=0:=by unfold sbor;rw [if_neg hlt]
     rw [e1] at hs
     have HS:=hid hs
     have HM:Hid ((nthd a k:Int)-cn=(sdig (nthd a k) 0 cn:Nat)):=hid (by unfold sdig;rw [if_neg hlt];omega)
     have q1:decide ((nthd a k:Int)-cn<0)=false:=decide_eq_false (by omega)
     clear hA' hB' HAT hs e1
     go_wp2_with (at_builtin;refine wp_snoc rfl _ _ rfl rfl rfl hown HM.out (by omega) (by omega) ?_)
     intro v' w1 ho hb2
     have HB2:=hid (hb2.out _ _ HB.out (Nat.le_refl _))
     clear hown hb2 HB hbs
     go_wp2
     go_roundw
     case rel=>exact ⟨k+1,0,_,by omega,by go_num,rfl,ho.out,HS.out,HB2.out⟩
     case measure=>simp [intOf];omega
  ·obtain rfl:k=a.length:=by omega
   obtain ⟨A2,c2,rfl,-,-,hR⟩:=hown.rsl
   have htr:=rtrim_calls A2 c2 ds wr hdl hR
   rw [HAT.out.done hl hv] at htr
   have HT:=hid htr
   clear hA' hB' HAT hown hR htr
   go_wp2_with fail
   refine HT.out.mono ?_;rintro e w1 ⟨v,rfl,ho,hb1⟩
   have HO:=hid ho;have HB1:=hid (HB.out.trans (hb1.mono hbs))
   clear ho hb1 HT
   go_wp2
   go_ret
   exact ⟨v,rfl,HO.out.mono hbs,HB1.out⟩
end
section
open Go.RowKit
def DBlk (w:World) (b:Nat) (ds:List Nat):Prop:=Blk w b (ds.map fun d=>Value.int .i64 (d:Nat)) 3
theorem DBlk.cell {w:World} {b:Nat} {ds:List Nat} (h:DBlk w b ds) (i:Nat) (hi:i<ds.length):w.cell? ⟨b,i,none⟩=some (.int .i64 (nthd ds i:Nat)):=by
 rw [Blk.cell h i (by simpa using hi)];simp [nthd_lt hi]
theorem DBlk.set {w:World} {b:Nat} {ds:List Nat} (h:DBlk w b ds) (i d:Nat):DBlk (w.setCell ⟨b,i,none⟩ (.int .i64 (d:Nat))) b (ds.set i d):=by
 have:=Blk.set h i (.int .i64 (d:Nat));unfold DBlk;rw [List.map_set];exact this
theorem DBlk.rds {w:World} {b:Nat} {ds:List Nat} (h:DBlk w b ds):Rds w (some ⟨b,0,none⟩) ds:=fun i hi=>⟨b,0,rfl,by rw [Nat.zero_add];exact h.cell i hi⟩
theorem DBlk.drewN {w:World} {b:Nat} {ds:List Nat} (h:DBlk w b ds) (n:Nat):DBlk (w.drewN n) b ds:=h
theorem DBlk.made (w:World) (n b:Nat) (h:w.heap.size=b):DBlk (w.alloc (.cells ((zeros n).map (Value.int .i64)).toArray 3 (0,0))) b (List.replicate n 0):=by
 have e:(zeros n).map (Value.int .i64)=(List.replicate n 0).map fun d:Nat=>Value.int .i64 (d:Nat):=by unfold zeros;simp [List.map_replicate]
 rw [e];exact Blk.new' _ _ _ _ h
theorem rval_set:∀ (l:List Nat) (i d:Nat),i<l.length→T.val (l.set i d)+10000 ^ i*nthd l i=T.val l+10000 ^ i*d
 | [],_,_,h=>by simp at h
 | x :: l,0,d,_=>by simp [T.val,nthd];omega
 | x :: l,i+1,d,h=>by
   have ih:=rval_set l i d (by simpa using h)
   have e:nthd (x :: l) (i+1)=nthd l i:=rfl
   simp only [List.set_cons_succ,T.val,e,Nat.pow_succ]
   have e1:10000 ^ i*10000*nthd l i=10000*(10000 ^ i*nthd l i):=by rw [Nat.mul_comm (10000 ^ i),Nat.mul_assoc]
   have e2:10000 ^ i*10000*d=10000*(10000 ^ i*d):=by rw [Nat.mul_comm (10000 ^ i),Nat.mul_assoc]
   omega
theorem rdig_set {l:List Nat} (h:T.Dig l) (k:Nat) {d:Nat} (hd:d<10000):T.Dig (l.set k d):=fun x hx=>by
 rcases List.mem_or_eq_of_mem_set hx with h1|h1
 ·exact h x h1
 ·rw [h1];exact hd
theorem nthd_set (l:List Nat) (i j d:Nat) (h:i≠j):nthd (l.set i d) j=nthd l j:=by
 unfold nthd;rw [List.getD_eq_getElem?_getD,List.getD_eq_getElem?_getD,List.getElem?_set_ne h]
structure MulRow (a b os:List Nat) (i:Nat):Prop where
 len:os.length=a.length+b.length
 dig:T.Dig os
 val:T.val os=T.val (a.take i)*T.val b
 zero:∀ j,i+b.length≤j→nthd os j=0
structure MulIn (a b os:List Nat) (i k c:Nat):Prop where
 len:os.length=a.length+b.length
 dig:T.Dig os
 car:c<10000
 val:T.val os+10000 ^ (i+k)*c=T.val (a.take i)*T.val b+10000 ^ i*nthd a i*T.val (b.take k)
 zero:∀ j,i+b.length≤j→nthd os j=0
theorem MulRow.start (a b:List Nat):MulRow a b (List.replicate (a.length+b.length) 0) 0:=by
 have hz:∀ n,T.val (List.replicate n 0)=0:=fun n=>by
  induction n with
  | zero=>rfl
  | succ n ih=>rw [List.replicate_succ];simp only [T.val];omega
 refine ⟨by simp,fun d hd=>by rw [(List.mem_replicate.1 hd).2];omega,by rw [hz];simp [T.val],fun j _=>?_⟩
 unfold nthd;rw [List.getD_eq_getElem?_getD,List.getElem?_replicate];split<;>rfl
theorem MulRow.enter {a b os:List Nat} {i:Nat} (h:MulRow a b os i):MulIn a b os i 0 0:=⟨h.len,h.dig,by omega,by rw [h.val];simp [T.val],h.zero⟩
theorem mul_digit {x y:Nat} (hx:x<10000) (hy:y<10000):x*y≤99980001:=by
 have:=Nat.mul_le_mul (show x≤9999 by omega) (show y≤9999 by omega)
 omega
theorem MulIn.step {a b os:List Nat} {i k c:Nat} (h:MulIn a b os i k c) (ha:T.Dig a) (hb:T.Dig b) (hi:i<a.length) (hk:k<b.length) :
 MulIn a b (os.set (i+k) ((nthd os (i+k)+nthd a i*nthd b k+c) % 10000)) i (k+1) ((nthd os (i+k)+nthd a i*nthd b k+c) / 10000):=by
 have x:nthd a i<10000:=ha.nth i
 have y:nthd b k<10000:=hb.nth k
 have o:nthd os (i+k)<10000:=h.dig.nth (i+k)
 have hc:=h.car
 have hp:=mul_digit x y
 refine ⟨by rw [List.length_set];exact h.len,rdig_set h.dig _ (Nat.mod_lt _ (by omega)),by omega,?_,fun j hj=>?_⟩
 ·have hv:=h.val
  have hs:=rval_set os (i+k) ((nthd os (i+k)+nthd a i*nthd b k+c) % 10000) (by rw [h.len];omega)
  rw [rval_take b k]
  have e0:10000 ^ (i+(k+1))=10000 ^ (i+k)*10000:=by rw [←Nat.add_assoc,Nat.pow_succ]
  rw [e0]
  have e1:10000 ^ i*nthd a i*(T.val (b.take k)+10000 ^ k*nthd b k)=10000 ^ i*nthd a i*T.val (b.take k)+10000 ^ (i+k)*(nthd a i*nthd b k):=by
   rw [Nat.mul_add];congr 1
   rw [Nat.pow_add,Nat.mul_assoc,Nat.mul_assoc];congr 1
   rw [←Nat.mul_assoc,Nat.mul_comm (nthd a i),Nat.mul_assoc]
  rw [e1]
  generalize nthd a i*nthd b k=p at *
  generalize nthd os (i+k)=q at *
  generalize 10000 ^ (i+k)=P at *
  have e2:(q+p+c) % 10000+10000*((q+p+c) / 10000)=q+p+c:=by omega
  have e3:P*((q+p+c) % 10000)+P*10000*((q+p+c) / 10000)=P*q+P*p+P*c:=by
   rw [Nat.mul_assoc,←Nat.mul_add,e2,Nat.mul_add,Nat.mul_add]
  omega
 ·rw [nthd_set _ _ _ _ (by omega)];exact h.zero j hj
theorem MulIn.done {a b os:List Nat} {i c:Nat} (h:MulIn a b os i b.length c) (hi:i<a.length):MulRow a b (os.set (i+b.length) c) (i+1):=by
 refine ⟨by rw [List.length_set];exact h.len,rdig_set h.dig _ h.car,?_,fun j hj=>?_⟩
 ·have hv:=h.val
  have hs:=rval_set os (i+b.length) c (by rw [h.len];omega)
  rw [h.zero _ (Nat.le_refl _),Nat.mul_zero,Nat.add_zero] at hs
  rw [hs,hv,rval_take a i,List.take_length,Nat.add_mul]
 ·rw [nthd_set _ _ _ _ (by omega)];exact h.zero j (by omega)
theorem MulRow.done {a b os:List Nat} (h:MulRow a b os a.length):T.trimL os=T.digits (T.val a*T.val b):=by
 rw [T.trimL_digits h.dig,h.val,List.take_length]
set_option maxRecDepth 100000 in
set_option maxHeartbeats 2000000 in
theorem rmulD_calls (A B:Option Addr) (ca cb:Nat) (a b:List Nat) (w:World) (ha:T.Dig a) (hb:T.Dig b) (hla:a.length≤4000000000000) (hlb:b.length≤4000000000000) (hA:Rds w A a) (hB:Rds w B b) :
 Calls Tryz.prog 104 #[.slice A a.length ca,.slice B b.length cb] w fun e w'=>∃ v,e=.returned v∧OwnD w' w.heap.size v (T.digits (T.val a*T.val b))∧Below w.heap.size w w':=by
 have hmk:=fun w=>run_makeInts w (a.length+b.length) (by omega)
 have ec:((a.length+b.length:Nat):Int)=(a.length:Int)+b.length:=by push_cast;rfl
 rw [ec] at hmk
 clear ec
 go_enter Tryz.func104,Tryz.ntmps104
 go_wp2_with fail
 clear hmk
 go_loopw [6,7,8,9] (fun i _ _ _ wr=>∃ (n:Nat) (os:List Nat),n≤a.length∧i=.int .i64 n∧DBlk wr w.heap.size os∧MulRow a b os n∧Below w.heap.size w wr) (fun i _ _ _ _=>a.length-(intOf i).toNat)
 case atStart=>exact ⟨0,_,Nat.zero_le _,rfl,DBlk.made _ _ _ rfl,MulRow.start a b,(Below.refl _ _).alloc (Nat.le_refl _) _⟩
 case round =>
  obtain ⟨n,os,hn,rfl,hos,hrow,hbe⟩:=hrel
  by_cases hlt:n<a.length
  ·have hin:=hid hrow.enter
   obtain ⟨wo,rfl⟩:∃ wo:World,wo=wr:=⟨_,rfl⟩
   have hn1:(n:Int)<a.length:=by omega
   clear hrow
   go_wp2_with fail
   go_loopw [7,8,9] (fun c k _ wr=>∃ (m cn:Nat) (os:List Nat),m≤b.length∧k=.int .i64 m∧c=.int .i64 cn∧DBlk wr w.heap.size os∧Hid (MulIn a b os n m cn)∧Below w.heap.size w wr) (fun _ k _ _=>b.length-(intOf k).toNat)
   case atStart=>exact ⟨0,0,os,Nat.zero_le _,rfl,rfl,hos,hin,hbe⟩
   case round =>
    clear hos hin hbe
    obtain ⟨m,cn,os,hm,rfl,rfl,hos,hin,hbe⟩:=hrel
    have hcar:=hin.out.car
    have hln:Hid (os.length=a.length+b.length):=hid hin.out.len
    have bl:=Blk.lt hos
    by_cases hlm:m<b.length
    ·obtain ⟨b1,o1,rfl,g1⟩:=(hA.ext hbe) n hlt
     obtain ⟨b2,o2,rfl,g2⟩:=(hB.ext hbe) m hlm
     have g3:=hos.cell (n+m) (by rw [hln.out];omega)
     have f3:=Blk.free hos (n+m)
     have x:nthd a n<10000:=ha.nth n
     have y:nthd b m<10000:=hb.nth m
     have o:nthd os (n+m)<10000:=hin.out.dig.nth (n+m)
     have hp:=mul_digit x y
     have hst:=hid (hin.out.step ha hb hlt hlm)
     have hset:=hid (fun wq:World=>fun h:DBlk wq w.heap.size os=>h.set (n+m) ((nthd os (n+m)+nthd a n*nthd b m+cn) % 10000))
     have HOS:=hid hos;have HB:=hid hbe
     have hpi:((nthd a n*nthd b m:Nat):Int)=(nthd a n:Int)*nthd b m:=by push_cast;rfl
     have hp2:0≤(nthd a n:Int)*nthd b m∧(nthd a n:Int)*nthd b m≤99980001:=by omega
     have E1:Hid ((((nthd os (n+m)+nthd a n*nthd b m+cn) % 10000:Nat):Int)=((nthd os (n+m):Int)+(nthd a n:Int)*nthd b m+cn) % 10000):=hid (by omega)
     have E2:Hid ((((nthd os (n+m)+nthd a n*nthd b m+cn) / 10000:Nat):Int)=((nthd os (n+m):Int)+(nthd a n:Int)*nthd b m+cn) / 10000):=hid (by omega)
     have h1:(m:Int)<b.length:=by omega
     have h2:(n:Int)+m<(a.length:Int)+b.length:=by omega
     clear hpi hp hos hin hbe
     go_wp2_with fail
     go_quiet (fail)
     go_wp2_with fail
     go_roundw
     case rel=>exact ⟨m+1,_,_,by omega,by go_num,by rw [←E2.out],by rw [←E1.out];exact hset.out _ (HOS.out.drewN nq),hst.out,(HB.out.trans ((drewN_below _ _).mono HB.out.size)).setCell (Nat.le_refl _) _⟩
     case measure=>simp [intOf];omega
    ·obtain rfl:m=b.length:=by omega
     have g3:=hos.cell (n+b.length) (by rw [hln.out];omega)
     have f3:=Blk.free hos (n+b.length)
     have h2:(n:Int)+b.length<(a.length:Int)+b.length:=by omega
     have hst:=hid (hin.out.done hlt)
     have hset:=hid (hos.set (n+b.length) cn)
     have HB:=hid hbe
     clear hos hin hbe
     go_wp2_with fail
     go_roundw
     case rel=>exact ⟨n+1,_,by omega,by go_num,hset.out,hst.out,HB.out.setCell (Nat.le_refl _) _⟩
     case measure=>simp [intOf];omega
  ·obtain rfl:n=a.length:=by omega
   have htr:=rtrim_calls (some ⟨w.heap.size,0,none⟩) (a.length+b.length) os wr (by rw [hrow.len];omega) hos.rds
   rw [hrow.done,hrow.len] at htr
   have HT:=hid htr;have HB:=hid hbe
   have hs:=hbe.size
   clear htr hrow hos hbe
   go_wp2_with fail
   refine HT.out.mono ?_;rintro e w1 ⟨v,rfl,ho,hb1⟩
   have HO:=hid ho;have HB1:=hid (HB.out.trans (hb1.mono hs))
   clear ho hb1 HT
   go_wp2
   go_ret
   exact ⟨v,rfl,HO.out.mono hs,HB1.out⟩
end
end Go.Proofs.YtkljafmdbajfeaaGreatDoor
