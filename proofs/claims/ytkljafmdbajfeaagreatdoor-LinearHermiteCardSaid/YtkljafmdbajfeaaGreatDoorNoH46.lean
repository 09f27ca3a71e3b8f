/- The reference's elimination: Normal. -/
import Derived.Deep.Upon
import Derived.Test.YtkljafmdbajfeaaGreatDoorNoH43
import Derived.Test.YtkljafmdbajfeaaGreatDoorNoH44
namespace Go.Proofs.YtkljafmdbajfeaaGreatDoor
set_option linter.unusedVariables false
set_option linter.unusedSimpArgs false
open Go.Lib (hid)
section
open Go.RowKit Go.ChangeMaps
theorem mv_grow {B:Nat} {FB:World→Nat→Prop} {Ks:List Tmp} {x:Tmp→Value} {w w':World} {t:Tmp} {own:Option Tmp} (c:Value) (hb:Below w.heap.size w w') (hk:Ks.contains t=false):Mv B FB Ks t own (leafS t c) x w c w' :=
 ⟨.inl (grown_below hb),upd_self _ _ _,fun h=>by rw [List.contains_iff_mem.2 h] at hk;cases hk⟩
def MadeB (n:Nat) (v:Value) (w:World):Prop:=∃ g,v=.slice (some ⟨g,0,none⟩) n n∧BigsAt w (some ⟨g,0,none⟩) (zeros n)
theorem calm_made (n:Nat):Calm NoBlk (MadeB n):=⟨fun v w w' ⟨g,h1,h2⟩ hb=>⟨g,h1,h2.ext hb⟩,fun v w w' p h hp hb=>hp.elim⟩
theorem OwnR.num {w:World} {base n N c:Nat} {A:Option Addr} {rs:List (List Int)} (h:OwnR w base (.slice A n c) rs) {i j:Nat} (hi:i<rs.length) (hl:(nrow rs i).length=N) (hj:j<N) :
 ∃ g b o cR q L B cq,A=some ⟨g,0,none⟩∧n=rs.length∧base≤g∧w.cell? ⟨g,i,none⟩=some (.slice (some ⟨b,o,none⟩) N cR)∧w.frozen? ⟨g,i,none⟩=false∧Hid (BSl w (.slice (some ⟨b,o,none⟩) N cR) (nrow rs i)) ∧
  w.cell? ⟨b,o+j*2,none⟩=some (.bool q)∧w.cell? ⟨b,o+j*2+1,none⟩=some (.slice B L cq)∧Hid (q=decide (nth (nrow rs i) j<0))∧Hid (RB w (.agg #[.bool q,.slice B L cq]) (nth (nrow rs i) j)):=by
 obtain ⟨g,R,cR,h1,h2,h3,h4,h5,h7,h8,h6⟩:=h.row hi
 obtain ⟨b,o,q,L,B,cq,rfl,k1,k2,k3⟩:=h6 j (by omega)
 rw [hl] at h4
 obtain ⟨q',A',L',c',e,hq,-⟩:=k3.open2
 simp at e
 obtain ⟨rfl,-⟩:=e
 exact ⟨g,b,o,cR,q,L,B,cq,h1,h2,h3,h4,h5,hid ⟨_,_,by rw [hl],h7,h8,h6⟩,k1,k2,hq,hid k3⟩
theorem wp_copyR {ops:Array Oper} {rest:List Oper} {o:Oper} {a:Act} {R:Exit→Act→World→Prop} (hgd:o.guard=none) (s x:Operand)
 (ho:o.op=.call { callee:=.builtin .append,args:=#[s,x],argTypes:=#[108,108] }) {w:World} {A:Option Addr} {c:Nat} {rs:List (List Int)} (hs:a.eval s=.slice none 0 0)
 (hx:a.eval x=.slice A rs.length c) (hR:RowsAt w A rs) (hl:rs.length≤1000)
 (h:∀ v' w',Hid (OwnR w' w.heap.size v' rs)→Hid (Below w.heap.size w w')→wpList Tryz.prog ops R rest (a.put o.dst v') w') :
 wpList Tryz.prog ops R (o :: rest) a w:=by
 obtain ⟨i0,hi,hz0,hz1,hz2⟩:=info_parts infoBigs
 by_cases h0:rs.length=0
 ·have e:rs=[]:=List.eq_nil_of_length_eq_zero h0
  subst e
  refine wpList_plain hgd fun K hK=>?_
  have hsrc:Src Tryz.prog i0.size 108 (.slice A 0 c) 0 [] w:=by
   cases A with
   | none=>exact Src.ofNil w Tryz.underlying108 c
   | some a=>exact Src.ofSlice w Tryz.underlying108 a 0 c [] (by simp) (fun j u hj=>by simp at hj) (fun u hu=>by cases hu)
  have hr:=run_append_nothing w 108 108 o.type 118 i0 Tryz.underlying108 hi none 0 0 (Nat.le_refl _) (.slice A 0 c) hsrc
  have hx':a.eval x=.slice A 0 c:=hx
  unfold Oper.wp execOp
  simp only [ho,resolve,invoke,builtin,Sem.run_bind,Sem.run_pure,Result.andThen_ok,List.map_toArray,List.map_cons,List.map_nil,hs,hx',hr]
  exact hK _ _ (h _ _ (hid (OwnR.nil _ _)) (hid (Below.refl _ _)))
 ·obtain ⟨ad,rfl⟩:∃ ad,A=some ad:=by obtain ⟨b,off,-,-,e,-⟩:=hR 0 (by omega);exact ⟨_,e⟩
  have hex:∀ i,i<rs.length→∃ u,w.cell? (ad.add i)=some u∧BSl w u (nrow rs i):=fun i hi=>by
   obtain ⟨b,off,B,c',e,h1,h2,h3,h4⟩:=hR i hi
   injection e with e;subst e
   have hadd:(⟨b,off,none⟩:Addr).add i=⟨b,off+i,none⟩:=by unfold Addr.add;split<;>simp_all
   exact ⟨_,by rw [hadd];exact h1,B,c',rfl,h2,h3,h4⟩
  have hnews:∀ i,i<rs.length→((List.range rs.length).map fun i=>(w.cell? (ad.add i)).getD .nilFunc)[i]? = w.cell? (ad.add i):=fun i hi=>by
   obtain ⟨u,e,-⟩:=hex i hi
   simp [hi,e]
  have hlen:((List.range rs.length).map fun i=>(w.cell? (ad.add i)).getD Value.nilFunc).length=rs.length:=by simp
  have hmem:∀ u∈(List.range rs.length).map (fun i=>(w.cell? (ad.add i)).getD Value.nilFunc),isSl u:=fun u hu=>by
   obtain ⟨i,hi,rfl⟩:=List.mem_map.1 hu
   obtain ⟨u,e,A,c,rfl,-⟩:=hex i (List.mem_range.1 hi)
   rw [e];exact ⟨_,_,_,rfl⟩
  refine wpList_append_all isSl hgd s x 108 ho w.heap.size 118 i0 _ 24 Tryz.underlying108 hi hz0 hz1 hz2 rfl ⟨_,_,_,rfl⟩ _ 0 [] hs (World.ownsRow_nil _ _ _ _) (OwnC.nil _ _ _ _) ad rs.length c _ hx hlen ?_ ?_ hmem (by omega) (by unfold maxLen;omega) (by omega) (Nat.le_refl _) ?_
  ·intro j u hj
   have hjl:j<rs.length:=by have:=(List.getElem?_eq_some_iff.1 hj).1;rw [hlen] at this;exact this
   rw [hnews j hjl] at hj;exact hj
  ·intro u hu;obtain ⟨A,n,c,rfl⟩:=hmem u hu;rfl
  ·intro v' w' k1 k2 k3
   rw [Nat.zero_add,List.nil_append] at k1
   refine h v' w' (hid ⟨_,k1,k3,fun i hi=>?_⟩) (hid ((Below.refl w.heap.size w).grown k2 (Nat.le_refl _) fun k hk=>by simp [Value.ownBlock] at hk))
   obtain ⟨u,e1,e2⟩:=hex i hi
   exact ⟨u,by rw [hnews i hi];exact e1,e2.grownS (OwnC.nil _ _ _ _) k2⟩
theorem OwnR.far {w:World} {B g:Nat} {v:Value} {l:List (List Int)} (h:OwnR w B v l) (hg:g<B):v.ownBlock=none∨v.ownBlock≠some g:=by
 obtain ⟨xs,h1,-,-⟩:=h.ex
 refine .inr fun e=>?_
 have:=(World.ownsRow.lt h1 g e).1
 omega
theorem OwnR.lt {w:World} {B g:Nat} {v:Value} {l:List (List Int)} (h:OwnR w B v l) (hg:v.ownBlock=some g):g<w.heap.size:=by
 obtain ⟨xs,h1,-,-⟩:=h.ex
 exact (World.ownsRow.lt h1 g hg).2
structure NSt (rs:List (List Int)) (n M:Nat) (w:World) (c:Nat) (l out:List (List Int)) (p:Nat→Nat) (B:Nat) (v5 v6:Value) (wr:World):Prop where
 inv:NInv rs n M c out l p
 l:OwnR wr B v5 l
 o:OwnR wr w.heap.size v6 out
 le:w.heap.size≤B
 apart:∀ g,v6.ownBlock=some g→g<B
 below:Below w.heap.size w wr
theorem ColInv.fine {rs out l l2:List (List Int)} {n M c:Nat} {p:Nat→Nat} (h:NInv rs n M c out l p) (k:ColInv l l2 n c (upM M out.length)) (hM:2≤M) (h6:rs.length≤6):∀ i,i<l2.length→RowBd (upM M 6) (nrow l2 i):=fun i hi =>
 (k.le (upM_two hM _) h.bl i hi).mono (Nat.le_trans (grow_bd (upM_two hM _)).1 (upM_mono hM (j:=out.length+1) 6 (by have:=h.cnt;have:=k.len;omega)))
theorem NInv.fine {rs out l:List (List Int)} {n M c:Nat} {p:Nat→Nat} (h:NInv rs n M c out l p) (hM:2≤M) (h6:rs.length≤6):∀ i,i<out.length→RowBd (upM M 6) (nrow out i):=fun i hi =>
 (h.bo i hi).mono (upM_mono hM 6 (by have:=h.cnt;omega))
theorem clearTo_skip {l:List (List Int)} {c a k:Nat} (h:k=a∨nth (nrow l k) c=0):clearTo l c a (k+1)=clearTo l c a k:=by
 unfold clearTo
 refine List.map_congr_left fun i hi=>?_
 by_cases e:i=k
 ·subst e;rw [if_pos (by omega),if_neg (by omega)];unfold clearRow;rw [if_pos h]
 ·by_cases e2:i<k
  ·rw [if_pos (by omega),if_pos e2]
  ·rw [if_neg (by omega),if_neg e2]
theorem clearTo_zero (l:List (List Int)) (c a:Nat):clearTo l c a 0=l:=by
 refine List.ext_getElem (clearTo_len _ _ _ _) fun i h1 h2=>?_
 rw [←nrow_lt h1,←nrow_lt h2,clearTo_at _ _ _ _ h2,if_neg (by omega)]
theorem clearTo_set {l:List (List Int)} {c a k:Nat} (hk:k<l.length) (h:¬ (k=a∨nth (nrow l k) c=0)):(clearTo l c a k).set k (clrR (nrow l k) (nrow l a) c)=clearTo l c a (k+1):=by
 refine List.ext_getElem (by rw [List.length_set,clearTo_len,clearTo_len]) fun i h1 h2=>?_
 rw [List.length_set,clearTo_len] at h1
 rw [←nrow_lt h2,clearTo_at _ _ _ _ h1,List.getElem_set]
 by_cases e:k=i
 ·subst e;rw [if_pos rfl,if_pos (by omega)];unfold clearRow;rw [if_neg h]
 ·rw [if_neg e,←nrow_lt (by rw [clearTo_len];exact h1),clearTo_at _ _ _ _ h1]
  by_cases e2:i<k
  ·rw [if_pos e2,if_pos (by omega)]
  ·rw [if_neg e2,if_neg (by omega)]
theorem clearTo_none {l:List (List Int)} {c a:Nat}:∀ k,(∀ i,i<k→i≠a→nth (nrow l i) c=0)→clearTo l c a k=l
 | 0,_=>clearTo_zero l c a
 | k+1,h=>by
   rw [clearTo_skip (by by_cases e:k=a;exact .inl e;exact .inr (h k (by omega) e))]
   exact clearTo_none k fun i hi=>h i (by omega)
theorem clearTo_same {l:List (List Int)} {c a k i:Nat} (hi:i<l.length) (h:k≤i∨i=a):nrow (clearTo l c a k) i=nrow l i:=by
 rw [clearTo_at _ _ _ _ hi]
 rcases h with h|h
 ·rw [if_neg (by omega)]
 ·split
  ·unfold clearRow;rw [if_pos (.inl h)]
  ·rfl
theorem minTo_next (l:List (List Int)) (c k:Nat) (m:Int) (h:minTo l c k=m):minTo l c (k+1)=if nth (nrow l k) c≠0∧(m<0∨(nth (nrow l k) c).natAbs<(nth (nrow l m.toNat) c).natAbs) then (k:Int) else m:=by
 subst h;rfl
theorem zero_is {v:Value} {x:Int} {w:World} {d:Bool} (h1:RB w v x) (l1:Few x) (hd:decide (x=0)=d):Calls Tryz.prog 124 #[v] w fun e w'=>e=.returned (.bool d)∧Below w.heap.size w w':=by
 subst hd;exact rZero_calls v x w h1 l1
theorem smaller_is {v u:Value} {x y:Int} {w:World} {d:Bool} (h1:RB w v x) (h2:RB w u y) (l1:Few x) (l2:Few y) (hd:decide (x.natAbs<y.natAbs)=d):Calls Tryz.prog 141 #[v,u] w fun e w'=>e=.returned (.bool d)∧Below w.heap.size w w':=by
 subst hd;exact rSmaller_calls v u x y w h1 h2 l1 l2
theorem neg_is {B:Option Addr} {cb n:Nat} {lb:List Int} {v u:Value} {w:World} (hz:MadeB n v w) (hB:BSl w (.slice B n cb) lb) (hu:RB w u 1) (hn:n≤1000) (hf:∀ i,Few (nth lb i)) :
 Calls Tryz.prog 142 #[v,.slice B n cb,u] w fun e w'=>∃ v,e=.returned v∧BSl w' v (lessL (zeros n) lb 1)∧Below w.heap.size w w':=by
 obtain ⟨g,rfl,hz⟩:=hz
 obtain ⟨hlb,hB⟩:=hB.at
 have hzl:(zeros n).length=n:=by simp [zeros]
 have:=less_calls (some ⟨g,0,none⟩) B n cb (zeros n) lb u 1 w hz hB (by rw [hzl,hlb];exact Nat.le_refl _) (by omega) hu (few_bd (by decide)) (fun i _=>by rw [nth_zeros];exact few_bd (by decide)) (fun i _=>hf i) (fun i _=>by rw [Int.one_mul];exact hf i)
 rw [hzl,hlb] at this
 exact this.mono fun e w' ⟨v,h1,h2,h3⟩=>⟨v,h1,h2.bsl,h3⟩
theorem OwnR.put3 {w:World} {base g c n:Nat} {u:Value} {rs:List (List Int)} {r:List Int} {i:Nat} (h:OwnR w base (.slice (some ⟨g,0,none⟩) n c) rs) (hn:rs.length=n) (hi:i<n) (hu:BSl w u r) :
 OwnR (w.setCell ⟨g,i,none⟩ u) base (.slice (some ⟨g,0,none⟩) n c) (rs.set i r)∧(∀ t l,BSl w t l→BSl (w.setCell ⟨g,i,none⟩ u) t l)∧∀ b2 v2 rs2,OwnR w b2 v2 rs2→v2.ownBlock=none∨v2.ownBlock≠some g→OwnR (w.setCell ⟨g,i,none⟩ u) b2 v2 rs2:=by
 subst hn;exact h.put hi hu
structure RSt (l:List (List Int)) (n c M B b0:Nat) (w:World) (v5 v6:Value) (out l2:List (List Int)) (wq:World):Prop where
 col:ColInv l l2 n c M
 l:OwnR wq B v5 l2
 o:OwnR wq b0 v6 out
 below:Below b0 w wq
theorem RSt.ext {l:List (List Int)} {n c M B b0:Nat} {w:World} {v5 v6:Value} {out l2:List (List Int)} {wq wz:World} (h:RSt l n c M B b0 w v5 v6 out l2 wq) (hb:Below wq.heap.size wq wz) (h0:b0≤w.heap.size):RSt l n c M B b0 w v5 v6 out l2 wz :=
 ⟨h.col,h.l.ext hb,h.o.ext hb,h.below.trans (hb.mono (Nat.le_trans h0 h.below.size))⟩
set_option maxRecDepth 100000 in
set_option maxHeartbeats 8000000 in
theorem normal1_calls (A:Option Addr) (cA n M:Nat) (rs:List (List Int)) (w:World) (h:RowsAt w A rs) (h6:rs.length≤6) (hn:n≤100) (hlen:∀ i,i<rs.length→(nrow rs i).length=n) (hM:2≤M) (hbd:∀ i,i<rs.length→RowBd M (nrow rs i)) (hf:Fine (upM M 6)) :
 Calls Tryz.prog 86 #[.slice A rs.length cA,.int .i64 n] w fun e w'=>∃ v out p,e=.returned v∧OwnR w' w.heap.size v out∧NormOf rs n out p∧(∀ i,i<out.length→RowBd (upM M 6) (nrow out i))∧Below w.heap.size w w':=by
 have HF:=hid hf;have HH:=hid h
 have HI0:Hid (NInv rs n M 0 [] rs (fun _=>0)):=hid (NInv.start hlen hbd _)
 have HM:=hid hM;have H6:=hid h6
 clear h hlen hbd hf hM
 go_enter Tryz.func86,Tryz.ntmps86
 go_wp2_with (at_builtin;refine wp_copyR rfl _ _ rfl rfl rfl HH.out (by omega) ?_)
 intro v5 w1 ho hb1
 have HS:Hid (NSt rs n M w 0 rs [] (fun _=>0) w.heap.size v5 (.slice none 0 0) w1):=hid ⟨HI0.out,ho.out,OwnR.nil _ _,Nat.le_refl _,fun g hg=>(by cases hg),hb1.out⟩
 clear ho hb1 HI0 HH h6
 go_wp2_with fail
 go_loopw [5,6,7] (fun v5 v6 v7 wr=>∃ (c:Nat) (l out:List (List Int)) (p:Nat→Nat) (B:Nat),c≤n∧v7=.int .i64 c∧Hid (NSt rs n M w c l out p B v5 v6 wr)) (fun _ _ v7 _=>n-(intOf v7).toNat)
 case atStart=>exact ⟨0,rs,[],_,_,Nat.zero_le _,rfl,HS⟩
 case round =>
  clear HS
  obtain ⟨w2,hw2⟩:∃ W,W=wr:=⟨_,rfl⟩
  subst hw2
  obtain ⟨c,l,out,p,B,hc,rfl,hs⟩:=hrel
  obtain ⟨A5,c5,rfl,-⟩:=hs.out.l.at
  obtain ⟨A6,c6,rfl,-⟩:=hs.out.o.at
  by_cases hlt:c<n
  ·have hc1:(c:Int)<n:=by omega
   have hll6:l.length≤6:=by have:=hs.out.inv.cnt;have:=H6.out;omega
   have hol6:out.length≤6:=by have:=hs.out.inv.cnt;have:=H6.out;omega
   have HR0:Hid (RSt l n c (upM M out.length) B w.heap.size w (.slice A5 l.length c5) (.slice A6 out.length c6) out l w2):=hid ⟨hs.out.inv.col _,hs.out.l,hs.out.o,hs.out.below⟩
   have FIN:Hid (∀ l2,ColInv l l2 n c (upM M out.length)→∀ i,i<l2.length→RowBd (upM M 6) (nrow l2 i)):=hid fun l2 k=>k.fine hs.out.inv HM.out H6.out
   have HLT:=hid hlt
   go_wp2_with fail
   go_loopg [8,9] (colSum l c+2) (fun gk v8 v9 wq=>∃ l2,Hid (RSt l n c (upM M out.length) B w.heap.size w (.slice A5 l.length c5) (.slice A6 out.length c6) out l2 wq) ∧
    ((v9=.bool true∧Hid (colSum l2 c+1<gk))∨(v9=.bool false∧∃ m:Int,v8=.int .i64 m∧Hid (minTo l2 c l2.length=m∧∀ a:Nat,m=a→∀ i,i<l2.length→i≠a→nth (nrow l2 i) c=0))))
   case atStart=>exact ⟨l,HR0,.inl ⟨rfl,hid (by omega)⟩⟩
   case round =>
    clear HR0
    obtain ⟨w3,hw3⟩:∃ W,W=wr:=⟨_,rfl⟩
    subst hw3
    obtain ⟨l2,hst,hsw⟩:=hrel
    have hl2:l2.length=l.length:=hst.out.col.len
    have HL2:=hid hl2
    rcases hsw with ⟨rfl,hgk⟩|⟨rfl,m,rfl,hmd⟩
    ·clear hl2
     go_wp2_with fail
     go_loopw [8,10] (fun v8 v10 wr=>∃ i,i≤l.length∧v10=.int .i64 (i:Nat)∧v8=.int .i64 (minTo l2 c i)∧Hid (Below w3.heap.size w3 wr)) (fun _ v10 _=>l.length-(intOf v10).toNat)
     case atStart=>exact ⟨0,Nat.zero_le _,rfl,rfl,hid (Below.refl _ _)⟩
     case round =>
      obtain ⟨i,hi,rfl,rfl,hb3⟩:=hrel
      by_cases hil:i<l.length
      ·have hil1:(i:Int)<l.length:=by omega
       have hil2:i<l2.length:=by rw [HL2.out];exact hil
       obtain ⟨g,b,o,cR,q,L,Bq,cq,rfl,-,-,k1,-,-,k2,k3,-,hrb⟩:=(hst.out.l.ext hb3.out).num (i:=i) (j:=c) hil2 (hst.out.col.ll i hil2) HLT.out
       obtain ⟨x,hx⟩:∃ x,nth (nrow l2 i) c=x:=⟨_,rfl⟩
       obtain ⟨m,hm⟩:∃ m,minTo l2 c i=m:=⟨_,rfl⟩
       have hfx:Few x:=by rw [←hx];exact HF.out.le (FIN.out l2 hst.out.col i hil2 c)
       have hnx:=minTo_next l2 c i m hm
       rw [hx] at hrb hnx
       rw [hm]
       have hmc:=minTo_spec l2 c i
       rw [hm] at hmc
       by_cases hx0:x=0
       ·have HZ:=hid (fun (W:World) (k:Below wr.heap.size wr W)=>zero_is (d:=true) (hrb.out.ext k) hfx (by rw [hx0];rfl))
        have HN:Hid (minTo l2 c (i+1)=m):=hid (by rw [hnx,if_neg (fun h=>h.1 hx0)])
        clear hnx hmc hx hm hrb hfx hx0 hil2
        go_wp2_with fail
        refine wp_region_kc (w0:=wr) 29 [31,32,33,34,35,36,37,38,39,40,41,42,43,44,45,46,47,48,49,50,51,52,53,54,55,56,57,58,59]
         [.c (.slice (some ⟨g,0,none⟩) l.length c5),.c (.int .i64 i),.c (.pointer (some ⟨g,i,none⟩)),.c (.slice (some ⟨b,o,none⟩) n cR),.c (.int .i64 c),.c (.pointer (some ⟨b,o+c*2,none⟩)),.c (.agg #[.bool q,.slice Bq L cq]),.c (.bool true),.c (.bool false),.c (.bool false),.c undef,.c undef,.c undef,.c undef,.c undef,.c undef,.c undef,.c undef,.c undef,.c undef,.c undef,.c undef,.c undef,.c undef,.c undef,.c undef,.c undef,.c undef,.c undef]
         [] NoBlk (by kernel_rfl) (by kernel_rfl) (by kernel_rfl) rfl (F:=?cFr14z) ?r14zc1 ?r14zc2 ?r14zc3 ?r14zc4
        case r14zc1 =>
         intro x
         simp only [fullC,Act.put,List.setIfInBounds_toArray,List.set_cons_zero,List.set_cons_succ]
         rfl
        case r14zc2 =>
         exact trivial
        case r14zc3 =>
         as_aux_lemma =>
          refine ⟨?_,?_,?_,?_,?_,?_,?_,?_,?_,?_,?_,?_,?_,?_,?_,?_,?_,?_,?_,?_,?_,?_,?_,?_,?_,?_,?_,?_,?_,trivial⟩
          all_goals
           intro xx wq HE hd K hK
           have hc:=(bcell HE).1
           have k1':=(hc _ _ (cell_lt k1)).trans k1
           have k2':=(hc _ _ (cell_lt k2)).trans k2
           have k3':=(hc _ _ (cell_lt k3)).trans k3
           have HE:=hid HE
           have HC:=hid hc
           clear hd hc
           all_goals go_simp
           try (refine hK _ _ _ (mv_const _ rfl) ?_;dsimp only [Act.put];first|done|rfl|(simp [*];done))
          ·refine (HZ.out wq HE.out).mono ?_
           rintro e w3 ⟨rfl,h2⟩
           exact hK _ _ _ (mv_grow _ h2 rfl) (by first|(dsimp only [Act.put];done)|(dsimp only [Act.put];first|rfl|(simp [*];done)|(simp [*,ptr];done)))
        case r14zc4 =>
         intro xx wz hE hG hA
         have HB4:=hid (hb3.out.trans (hE.mono hb3.out.size))
         clear hG hA hE hb3
         (refine tail_one (i:=29) (by kernel_rfl) rfl ?_;intro K hK;go_simp;refine hK _ _ ?_;clear hK)
         refine wpAny_done (by kernel_rfl) ?_ _
         try simp only [Exit.inBlock,Exit.then]
         go_wp2
         go_roundw
         case rel=>exact ⟨i+1,by omega,by go_num,by rw [HN.out],HB4⟩
         case measure=>simp [intOf];omega
       ·have HZ:=hid (fun (W:World) (k:Below wr.heap.size wr W)=>zero_is (d:=false) (hrb.out.ext k) hfx (decide_eq_false hx0))
        rcases hmc with ⟨hm1,-⟩|⟨a,hm1,hai,-,-⟩
        ·have HN:Hid (minTo l2 c (i+1)=(i:Nat)):=hid (by rw [hnx,if_pos ⟨hx0,.inl (by omega)⟩])
         have d1:decide (m<0)=true:=decide_eq_true (by omega)
         clear hnx hx hm hrb hfx hx0 hil2 hm1
         go_wp2_with fail
         refine wp_region_kc (w0:=wr) 29 [31,32,33,34,35,36,37,38,39,40,41,42,43,44,45,46,47,48,49,50,51,52,53,54,55,56,57,58,59]
          [.c (.slice (some ⟨g,0,none⟩) l.length c5),.c (.int .i64 i),.c (.pointer (some ⟨g,i,none⟩)),.c (.slice (some ⟨b,o,none⟩) n cR),.c (.int .i64 c),.c (.pointer (some ⟨b,o+c*2,none⟩)),.c (.agg #[.bool q,.slice Bq L cq]),.c (.bool false),.c (.bool true),.c (.bool true),.c (.int .i64 m),.c (.bool true),.c (.bool true),.c undef,.c undef,.c undef,.c undef,.c undef,.c undef,.c undef,.c undef,.c undef,.c undef,.c undef,.c undef,.c undef,.c undef,.c undef,.c (.bool true)]
          [] NoBlk (by kernel_rfl) (by kernel_rfl) (by kernel_rfl) rfl (F:=?cFr14a) ?r14ac1 ?r14ac2 ?r14ac3 ?r14ac4
         case r14ac1 =>
          intro x
          simp only [fullC,Act.put,List.setIfInBounds_toArray,List.set_cons_zero,List.set_cons_succ]
          rfl
         case r14ac2 =>
          exact trivial
         case r14ac3 =>
          as_aux_lemma =>
           refine ⟨?_,?_,?_,?_,?_,?_,?_,?_,?_,?_,?_,?_,?_,?_,?_,?_,?_,?_,?_,?_,?_,?_,?_,?_,?_,?_,?_,?_,?_,trivial⟩
           all_goals
            intro xx wq HE hd K hK
            have hc:=(bcell HE).1
            have k1':=(hc _ _ (cell_lt k1)).trans k1
            have k2':=(hc _ _ (cell_lt k2)).trans k2
            have k3':=(hc _ _ (cell_lt k3)).trans k3
            have HE:=hid HE
            have HC:=hid hc
            clear hd hc
            all_goals go_simp
            try (refine hK _ _ _ (mv_const _ rfl) ?_;dsimp only [Act.put];first|done|rfl|(simp [*];done))
           ·refine (HZ.out wq HE.out).mono ?_
            rintro e w3 ⟨rfl,h2⟩
            exact hK _ _ _ (mv_grow _ h2 rfl) (by first|(dsimp only [Act.put];done)|(dsimp only [Act.put];first|rfl|(simp [*];done)|(simp [*,ptr];done)))
         case r14ac4 =>
          intro xx wz hE hG hA
          have HB4:=hid (hb3.out.trans (hE.mono hb3.out.size))
          clear hG hA hE hb3
          (refine tail_one (i:=29) (by kernel_rfl) rfl ?_;intro K hK;go_simp;refine hK _ _ ?_;clear hK)
          refine wpAny_done (by kernel_rfl) ?_ _
          try simp only [Exit.inBlock,Exit.then]
          go_wp2
          go_roundw
          case rel=>exact ⟨i+1,by omega,by go_num,by rw [HN.out],HB4⟩
          case measure=>simp [intOf];omega
        ·have hal2:a<l2.length:=by omega
         have hal1:(a:Int)<l.length:=by have:=HL2.out;omega
         obtain ⟨g',b',o',cR',q',L',Bq',cq',e',-,-,j1,-,-,j2,j3,-,hrb2⟩:=(hst.out.l.ext hb3.out).num (i:=a) (j:=c) hal2 (hst.out.col.ll a hal2) HLT.out
         injection e' with e'
         injection e' with e' _ _
         subst e'
         obtain ⟨y,hy⟩:∃ y,nth (nrow l2 a) c=y:=⟨_,rfl⟩
         have hfy:Few y:=by rw [←hy];exact HF.out.le (FIN.out l2 hst.out.col a hal2 c)
         obtain ⟨d,hd⟩:∃ d,decide (x.natAbs<y.natAbs)=d:=⟨_,rfl⟩
         subst hm1
         have HN:Hid (minTo l2 c (i+1)=if d=true then (i:Int) else (a:Nat)):=hid (by
          rw [hnx,Int.toNat_natCast,hy,←hd]
          by_cases hxy:x.natAbs<y.natAbs
          ·rw [if_pos ⟨hx0,.inr hxy⟩,if_pos (decide_eq_true hxy)]
          ·rw [if_neg (by rintro ⟨-,h|h⟩;omega;exact hxy h),if_neg (by rw [decide_eq_false hxy];decide)])
         rw [hy] at hrb2
         have HSM:=hid (fun (W:World) (k:Below wr.heap.size wr W)=>smaller_is (hrb.out.ext k) (hrb2.out.ext k) hfx hfy hd)
         clear hnx hx hm hrb hfx hx0 hil2 hy hrb2 hfy hd hal2
         go_wp2_with fail
         refine wp_region_kc (w0:=wr) 29 [31,32,33,34,35,36,37,38,39,40,41,42,43,44,45,46,47,48,49,50,51,52,53,54,55,56,57,58,59]
          [.c (.slice (some ⟨g,0,none⟩) l.length c5),.c (.int .i64 i),.c (.pointer (some ⟨g,i,none⟩)),.c (.slice (some ⟨b,o,none⟩) n cR),.c (.int .i64 c),.c (.pointer (some ⟨b,o+c*2,none⟩)),.c (.agg #[.bool q,.slice Bq L cq]),.c (.bool false),.c (.bool true),.c (.bool true),.c (.int .i64 a),.c (.bool false),.c (.bool false),.c (.slice (some ⟨g,0,none⟩) l.length c5),.c (.int .i64 i),.c (.pointer (some ⟨g,i,none⟩)),.c (.slice (some ⟨b,o,none⟩) n cR),.c (.int .i64 c),.c (.pointer (some ⟨b,o+c*2,none⟩)),.c (.agg #[.bool q,.slice Bq L cq]),.c (.slice (some ⟨g,0,none⟩) l.length c5),.c (.int .i64 a),.c (.pointer (some ⟨g,a,none⟩)),.c (.slice (some ⟨b',o',none⟩) n cR'),.c (.int .i64 c),.c (.pointer (some ⟨b',o'+c*2,none⟩)),.c (.agg #[.bool q',.slice Bq' L' cq']),.c (.bool d),.c (.bool d)]
          [] NoBlk (by kernel_rfl) (by kernel_rfl) (by kernel_rfl) rfl (F:=?cFr14b) ?r14bc1 ?r14bc2 ?r14bc3 ?r14bc4
         case r14bc1 =>
          intro x
          simp only [fullC,Act.put,List.setIfInBounds_toArray,List.set_cons_zero,List.set_cons_succ]
          rfl
         case r14bc2 =>
          exact trivial
         case r14bc3 =>
          as_aux_lemma =>
           refine ⟨?_,?_,?_,?_,?_,?_,?_,?_,?_,?_,?_,?_,?_,?_,?_,?_,?_,?_,?_,?_,?_,?_,?_,?_,?_,?_,?_,?_,?_,trivial⟩
           all_goals
            intro xx wq HE hd K hK
            have hc:=(bcell HE).1
            have k1':=(hc _ _ (cell_lt k1)).trans k1
            have k2':=(hc _ _ (cell_lt k2)).trans k2
            have k3':=(hc _ _ (cell_lt k3)).trans k3
            have j1':=(hc _ _ (cell_lt j1)).trans j1
            have j2':=(hc _ _ (cell_lt j2)).trans j2
            have j3':=(hc _ _ (cell_lt j3)).trans j3
            have HE:=hid HE
            have HC:=hid hc
            clear hd hc
            all_goals go_simp
            try (refine hK _ _ _ (mv_const _ rfl) ?_;dsimp only [Act.put];first|done|rfl|(simp [*];done))
           ·refine (HZ.out wq HE.out).mono ?_
            rintro e w3 ⟨rfl,h2⟩
            exact hK _ _ _ (mv_grow _ h2 rfl) (by first|(dsimp only [Act.put];done)|(dsimp only [Act.put];first|rfl|(simp [*];done)|(simp [*,ptr];done)))
           ·refine (HSM.out wq HE.out).mono ?_
            rintro e w3 ⟨rfl,h2⟩
            exact hK _ _ _ (mv_grow _ h2 rfl) (by first|(dsimp only [Act.put];done)|(dsimp only [Act.put];first|rfl|(simp [*];done)|(simp [*,ptr];done)))
         case r14bc4 =>
          intro xx wz hE hG hA
          have HB4:=hid (hb3.out.trans (hE.mono hb3.out.size))
          clear hG hA hE hb3
          (refine tail_one (i:=29) (by kernel_rfl) rfl ?_;intro K hK;go_simp;refine hK _ _ ?_;clear hK)
          refine wpAny_done (by kernel_rfl) ?_ _
          try simp only [Exit.inBlock,Exit.then]
          cases d with
          | true =>
            go_wp2
            go_roundw
            case rel=>exact ⟨i+1,by omega,by go_num,by rw [HN.out,if_pos (by first|rfl|trivial)],HB4⟩
            case measure=>simp [intOf];omega
          | false =>
            go_wp2
            go_roundw
            case rel=>exact ⟨i+1,by omega,by go_num,by rw [HN.out,if_neg (by simp)],HB4⟩
            case measure=>simp [intOf];omega
      ·obtain rfl:i=l.length:=by omega
       obtain ⟨w4,hw4⟩:∃ W,W=wr:=⟨_,rfl⟩
       subst hw4
       have HS4:Hid (RSt l n c (upM M out.length) B w.heap.size w (.slice A5 l.length c5) (.slice A6 out.length c6) out l2 w4):=hid (hst.out.ext hb3.out (Nat.le_refl _))
       have HG:=hgk
       rcases minTo_spec l2 c l.length with ⟨hm,hz⟩|⟨a,hm,ha,hnz,hmin⟩
       ·have HMZ:Hid (minTo l2 c l2.length = -1∧∀ a:Nat,(-1:Int)=a→∀ i,i<l2.length→i≠a→nth (nrow l2 i) c=0):=hid ⟨by rw [HL2.out];exact hm,fun a h=>by omega⟩
        rw [hm]
        clear hm hz hst hb3 hgk
        go_wp2_with fail
        go_loopw [9,11] (fun v9 v11 wr=>∃ k:Nat,v9=.bool false∧v11=.int .i64 k∧wr=w4) (fun _ _ _=>0)
        case atStart=>exact ⟨0,rfl,rfl,rfl⟩
        case round =>
         obtain ⟨k,rfl,rfl,rfl⟩:=hrel
         by_cases hkl:k<l.length
         ·have hk1:(k:Int)<l.length:=by omega
          go_wp2
          go_roundg (colSum l2 c+1)
          case measure=>exact HG.out
          case rel=>exact ⟨l2,HS4,.inr ⟨rfl,_,rfl,HMZ⟩⟩
         ·have hk1:¬ (k:Int)<l.length:=by omega
          go_wp2
          go_roundg (colSum l2 c+1)
          case measure=>exact HG.out
          case rel=>exact ⟨l2,HS4,.inr ⟨rfl,_,rfl,HMZ⟩⟩
       ·have ha1:(a:Int)<l.length:=by omega
        have hal2:a<l2.length:=by rw [HL2.out];exact ha
        have HMN:Hid (ColMin l2 c a):=hid (minTo_col (by rw [HL2.out];exact hm))
        have HMA:Hid (minTo l2 c l2.length=a):=hid (by rw [HL2.out];exact hm)
        rw [hm]
        clear hm hmin hnz hst hb3 hgk
        go_wp2_with fail
        go_loopw [9,11] (fun v9 v11 wr=>∃ (k:Nat) (q:Bool),k≤l.length∧v11=.int .i64 k∧v9=.bool q∧Hid (q=true↔∃ i,i<k∧i≠a∧nth (nrow l2 i) c≠0)∧Hid (OwnR wr B (.slice A5 l.length c5) (clearTo l2 c a k))∧Hid (OwnR wr w.heap.size (.slice A6 out.length c6) out)∧Hid (Below w.heap.size w wr)) (fun _ v11 _=>l.length-(intOf v11).toNat)
        case atStart=>exact ⟨0,false,Nat.zero_le _,rfl,rfl,hid (by simp),hid (by rw [clearTo_zero];exact HS4.out.l),hid HS4.out.o,hid HS4.out.below⟩
        case round =>
         obtain ⟨k,q,hk,rfl,rfl,hq,hol,hoo,hbe⟩:=hrel
         by_cases hkl:k<l.length
         ·have hk1:(k:Int)<l.length:=by omega
          have hk2:k<l2.length:=by rw [HL2.out];exact hkl
          by_cases hka:k=a
          ·have d0:((k:Int) != (a:Int))=false:=by simp [hka]
           have HO5:Hid (OwnR wr B (.slice A5 l.length c5) (clearTo l2 c a (k+1))):=hid (by rw [clearTo_skip (.inl hka)];exact hol.out)
           have HQ5:Hid (q=true↔∃ i,i<k+1∧i≠a∧nth (nrow l2 i) c≠0):=hid (hq.out.trans ⟨fun ⟨i,h1,h2⟩=>⟨i,by omega,h2⟩,fun ⟨i,h1,h2,h3⟩=>⟨i,by omega,h2,h3⟩⟩)
           clear hka hol hq hk2
           go_wp2_with fail
           go_roundw
           case rel=>exact ⟨k+1,q,by omega,by go_num,rfl,HQ5,HO5,hoo,hbe⟩
           case measure=>simp [intOf];omega
          ·have d0:((k:Int) != (a:Int))=true:=by simp;omega
           have hck:k<(clearTo l2 c a k).length:=by rw [clearTo_len];exact hk2
           have hsk:=clearTo_same (c:=c) (a:=a) (k:=k) hk2 (.inl (Nat.le_refl _))
           have hlk:=HS4.out.col.ll k hk2
           obtain ⟨g,b,o,cR,q1,L,Bq,cq,rfl,-,hBg,k1,-,hbk,k2,k3,-,hrb⟩:=hol.out.num (i:=k) (j:=c) hck (by rw [hsk];exact hlk) HLT.out
           rw [hsk] at hbk hrb
           obtain ⟨x,hx⟩:∃ x,nth (nrow l2 k) c=x:=⟨_,rfl⟩
           have hfx:Few x:=by rw [←hx];exact HF.out.le (FIN.out l2 HS4.out.col k hk2 c)
           rw [hx] at hrb
           by_cases hx0:x=0
           ·have HZ:=hid (fun (W:World) (hk:Below wr.heap.size wr W)=>zero_is (d:=true) (hrb.out.ext hk) hfx (by rw [hx0];rfl))
            have HO5:Hid (OwnR wr B (.slice (some ⟨g,0,none⟩) l.length c5) (clearTo l2 c a (k+1))):=hid (by rw [clearTo_skip (.inr (by rw [hx];exact hx0))];exact hol.out)
            have HQ5:Hid (q=true↔∃ i,i<k+1∧i≠a∧nth (nrow l2 i) c≠0):=hid (hq.out.trans ⟨fun ⟨i,h1,h2⟩=>⟨i,by omega,h2⟩,fun ⟨i,h1,h2,h3⟩=>⟨i,by
             rcases Nat.lt_or_ge i k with h4|h4
             ·exact h4
             ·obtain rfl:i=k:=by omega
              exact absurd (hx.trans hx0) h3,h2,h3⟩⟩)
            clear hka hol hq hk2 hck hsk hlk hbk hrb hx hfx hx0
            go_wp2_with fail
            refine (HZ.out _ (Below.refl _ _)).mono ?_;rintro e w5 ⟨rfl,hb5⟩
            have HO6:=hid (HO5.out.ext hb5);have HOO6:=hid (hoo.out.ext hb5);have HB6:=hid (hbe.out.trans (hb5.mono hbe.out.size))
            clear hb5 HO5 hoo hbe HZ
            go_wp2_with fail
            go_roundw
            case rel=>exact ⟨k+1,q,by omega,by go_num,rfl,HQ5,HO6,HOO6,HB6⟩
            case measure=>simp [intOf];omega
           ·have HZ:=hid (fun (W:World) (hk:Below wr.heap.size wr W)=>zero_is (d:=false) (hrb.out.ext hk) hfx (decide_eq_false hx0))
            have hca:a<(clearTo l2 c a k).length:=by rw [clearTo_len];exact hal2
            have hsa:=clearTo_same (c:=c) (a:=a) (k:=k) hal2 (.inr rfl)
            have hla:=HS4.out.col.ll a hal2
            have hso:=HF.out.step hlk hla HLT.out (by omega) HMN.out.nz (FIN.out l2 HS4.out.col k hk2) (FIN.out l2 HS4.out.col a hal2)
            rw [←hsk] at hlk
            rw [←hsa] at hla
            have HN:Hid ((clearTo l2 c a k).set k (clrR (nrow l2 k) (nrow l2 a) c)=clearTo l2 c a (k+1)):=hid (clearTo_set hk2 (by rintro (h|h);exact hka h;exact hx0 (hx.symm.trans h)))
            have HQ5:Hid (∃ i,i<k+1∧i≠a∧nth (nrow l2 i) c≠0):=hid ⟨k,by omega,hka,by rw [hx];exact hx0⟩
            have HLC:Hid ((clearTo l2 c a k).length=l.length):=hid (by rw [clearTo_len];exact HL2.out)
            have HSO:=hid hso;have HCK:=hid hck;have HCA:=hid hca;have HSK:=hid hsk;have HSA:=hid hsa;have HLK:=hid hlk;have HLA:=hid hla
            clear hka hq hk2 hck hsk hlk hbk hrb hx hfx hx0 hca hsa hla hso
            go_wp2_with fail
            refine (HZ.out _ (Below.refl _ _)).mono ?_;rintro e w5 ⟨rfl,hb5⟩
            have HO6:=hid (hol.out.ext hb5);have HOO6:=hid (hoo.out.ext hb5);have HB6:=hid (hbe.out.trans (hb5.mono hbe.out.size))
            clear hb5 hol hoo hbe HZ k1 k2 k3
            obtain ⟨g1,b,o,cR,q1,L,Bq,cq,e1,-,-,k1,-,hbk,k2,k3,-,hrb⟩:=HO6.out.num (i:=k) (j:=c) HCK.out HLK.out HLT.out
            obtain ⟨g2,b',o',cR',q',L',Bq',cq',e2,-,-,j1,-,hba,j2,j3,-,hra⟩:=HO6.out.num (i:=a) (j:=c) HCA.out HLA.out HLT.out
            injection e1 with e1
            injection e1 with e1 _ _
            injection e2 with e2
            injection e2 with e2 _ _
            subst e1
            subst e2
            rw [HSK.out] at hbk hrb
            rw [HSA.out] at hba hra
            have HFL:=hid (fun (W:World) (hk:Below w5.heap.size w5 W)=>rFloor_calls _ _ _ _ W (hrb.out.ext hk) (hra.out.ext hk) (HSO.out.fa c HSO.out.ca) (HSO.out.fb c HSO.out.cb) HSO.out.nz)
            have HLS:=hid (fun (W:World) (u:Value) (hk:Below w5.heap.size w5 W) (hu:RB W u _)=>less_is (hbk.out.ext hk) (hba.out.ext hk) HSO.out hu)
            clear hbk hba hrb hra
            go_wp2_with fail
            refine wp_region_kc (w0:=w5) 26 [86,87,88,89,90,91,92,93,94,95,96,97,98,99,100,101,102,103,104,105,106,107,108,109,110,111]
             [.c (.slice (some ⟨g,0,none⟩) l.length c5),.c (.int .i64 k),.c (.slice (some ⟨g,0,none⟩) l.length c5),.c (.int .i64 k),.c (.pointer (some ⟨g,k,none⟩)),.c (.slice (some ⟨b,o,none⟩) n cR),.c (.slice (some ⟨g,0,none⟩) l.length c5),.c (.int .i64 a),.c (.pointer (some ⟨g,a,none⟩)),.c (.slice (some ⟨b',o',none⟩) n cR'),.c (.slice (some ⟨g,0,none⟩) l.length c5),.c (.int .i64 k),.c (.pointer (some ⟨g,k,none⟩)),.c (.slice (some ⟨b,o,none⟩) n cR),.c (.int .i64 c),.c (.pointer (some ⟨b,o+c*2,none⟩)),.c (.agg #[.bool q1,.slice Bq L cq]),.c (.slice (some ⟨g,0,none⟩) l.length c5),.c (.int .i64 a),.c (.pointer (some ⟨g,a,none⟩)),.c (.slice (some ⟨b',o',none⟩) n cR'),.c (.int .i64 c),.c (.pointer (some ⟨b',o'+c*2,none⟩)),.c (.agg #[.bool q',.slice Bq' L' cq']),.l none (leaf1 · (fun v w=>RB w v (flr (nth (nrow l2 k) c) (nth (nrow l2 a) c)))),.l none (leaf1 · (fun v w=>BSl w v (clrR (nrow l2 k) (nrow l2 a) c)))]
             [] NoBlk (by kernel_rfl) (by kernel_rfl) (by kernel_rfl) rfl (F:=?cFr20) ?r20c1 ?r20c2 ?r20c3 ?r20c4
            case r20c1 =>
             intro x
             simp only [fullC,Act.put,List.setIfInBounds_toArray,List.set_cons_zero,List.set_cons_succ]
             rfl
            case r20c2 =>
             exact ⟨keeps_calm (calm_rb _) _ _ _ _ _,keeps_calm (calm_bsl _) _ _ _ _ _,trivial⟩
            case r20c3 =>
             as_aux_lemma =>
              refine ⟨?_,?_,?_,?_,?_,?_,?_,?_,?_,?_,?_,?_,?_,?_,?_,?_,?_,?_,?_,?_,?_,?_,?_,?_,?_,?_,trivial⟩
              all_goals
               intro xx wq HE hd K hK
               have hc:=(bcell HE).1
               have k1':=(hc _ _ (cell_lt k1)).trans k1
               have k2':=(hc _ _ (cell_lt k2)).trans k2
               have k3':=(hc _ _ (cell_lt k3)).trans k3
               have j1':=(hc _ _ (cell_lt j1)).trans j1
               have j2':=(hc _ _ (cell_lt j2)).trans j2
               have j3':=(hc _ _ (cell_lt j3)).trans j3
               try have g24:=hd 24 _ (by decide) rfl
               try have g25:=hd 25 _ (by decide) rfl
               have HE:=hid HE
               have HC:=hid hc
               clear hd hc
               all_goals go_simp
               try (refine hK _ _ _ (mv_const _ rfl) ?_;dsimp only [Act.put];first|done|rfl|(simp [*];done))
              ·refine (HFL.out wq HE.out).mono ?_
               rintro e w3 ⟨v,rfl,h1,h2⟩
               exact hK _ _ _ (mv_plain h2 h1.rb rfl) (by first|(dsimp only [Act.put];done)|(dsimp only [Act.put];first|rfl|(simp [*];done)|(simp [*,ptr];done)))
              ·refine (HLS.out wq _ HE.out g24).mono ?_
               rintro e w3 ⟨v,rfl,h1,h2⟩
               exact hK _ _ _ (mv_plain h2 h1 rfl) (by first|(dsimp only [Act.put];done)|(dsimp only [Act.put];first|rfl|(simp [*];done)|(simp [*,ptr];done)))
            case r20c4 =>
             intro xx wz hE hG hA
             have e3:xx 89=_:=hG 3 _ rfl
             have e4:xx 90=_:=hG 4 _ rfl
             have g24:=hG 24 _ rfl
             have g25:=hG 25 _ rfl
             have hoz:=HO6.out.ext hE
             obtain ⟨g3,R3,cR3,e3,-,hB3,cz,fz,-⟩:=hoz.row HCK.out
             injection e3 with e3
             injection e3 with e3 _ _
             subst e3
             obtain ⟨p1,p2,p3⟩:=hoz.put3 HLC.out hkl g25
             have h25:∃ R4 n4 cR4,xx 111=.slice R4 n4 cR4:=by obtain ⟨R4,cR4,e4,-⟩:=g25;exact ⟨_,_,_,e4⟩
             rw [HN.out] at p1
             have HP1:=hid p1
             have HP3:=hid (p3 _ _ _ (HOO6.out.ext hE) (by
              by_cases hg6:(Value.slice A6 out.length c6).ownBlock=some g
              ·have:=hs.out.apart g hg6;omega
              ·exact .inr hg6))
             have HB7:=hid ((HB6.out.trans (hE.mono HB6.out.size)).setCell (p:=⟨g,k,none⟩) (Nat.le_trans hs.out.le hB3) (xx 111))
             obtain ⟨R4,n4,cR4,e25⟩:=h25
             rw [e25] at HP1 HP3 HB7
             clear hG hA hE hoz p1 p2 p3 g24 g25 HFL HLS
             (refine tail_one (i:=26) (by kernel_rfl) rfl ?_;intro K hK;go_simp;refine hK _ _ ?_;clear hK)
             (refine tail_one (i:=27) (by kernel_rfl) rfl ?_;intro K hK;go_simp;refine hK _ _ ?_;clear hK)
             refine wpAny_done (by kernel_rfl) ?_ _
             try simp only [Exit.inBlock,Exit.then]
             go_wp2
             go_roundw
             case rel=>exact ⟨k+1,true,by omega,by go_num,rfl,hid ⟨fun _=>HQ5.out,fun _=>rfl⟩,HP1,HP3,HB7⟩
             case measure=>simp [intOf];omega
         ·obtain rfl:k=l.length:=by omega
          have HOW:Hid (OwnR wr B (.slice A5 l.length c5) (clearTo l2 c a l2.length)):=hid (by rw [HL2.out];exact hol.out)
          cases q with
          | true =>
            have HR5:Hid (RSt l n c (upM M out.length) B w.heap.size w (.slice A5 l.length c5) (.slice A6 out.length c6) out (clearTo l2 c a l2.length) wr):=hid ⟨HS4.out.col.step hs.out.inv.bl HMN.out,HOW.out,hoo.out,hbe.out⟩
            have HC5:Hid (colSum (clearTo l2 c a l2.length) c+1<colSum l2 c+1):=hid (by
             obtain ⟨i,h1,h2⟩:=hq.out.1 rfl
             have:=colSum_lt HMN.out ⟨i,by rw [HL2.out];exact h1,h2⟩
             omega)
            clear hq hol hoo hbe HOW HS4
            go_wp2
            go_roundg (colSum l2 c+1)
            case measure=>exact HG.out
            case rel=>exact ⟨_,HR5,.inl ⟨rfl,HC5⟩⟩
          | false =>
            have hzz:∀ i,i<l2.length→i≠a→nth (nrow l2 i) c=0:=fun i h1 h2=>Classical.byContradiction fun h3=>by
             have:=hq.out.2 ⟨i,by rw [←HL2.out];exact h1,h2,h3⟩
             cases this
            have HR5:Hid (RSt l n c (upM M out.length) B w.heap.size w (.slice A5 l.length c5) (.slice A6 out.length c6) out l2 wr):=hid ⟨HS4.out.col,by have:=HOW.out;rw [clearTo_none _ hzz] at this;exact this,hoo.out,hbe.out⟩
            have HMZ:Hid (minTo l2 c l2.length=a∧∀ a':Nat,(a:Int)=a'→∀ i,i<l2.length→i≠a'→nth (nrow l2 i) c=0):=hid ⟨HMA.out,fun a' h i h1 h2=>hzz i h1 (by omega)⟩
            clear hq hol hoo hbe HOW HS4 hzz
            go_wp2
            go_roundg (colSum l2 c+1)
            case measure=>exact HG.out
            case rel=>exact ⟨l2,HR5,.inr ⟨rfl,_,rfl,HMZ⟩⟩
    ·rcases minTo_spec l2 c l2.length with ⟨hm,hz⟩|⟨a,hm,ha,hnz,-⟩
     ·obtain rfl:m = -1:=by rw [←hmd.out.1,hm]
      have e2:l2=l:=hst.out.col.none hz
      have HS5:Hid (NSt rs n M w (c+1) l out p B (.slice A5 l.length c5) (.slice A6 out.length c6) w3):=hid ⟨hs.out.inv.skip (by rw [←e2];exact hz),by have:=hst.out.l;rw [e2] at this;exact this,hst.out.o,hs.out.le,hs.out.apart,hst.out.below⟩
      clear hm hz e2 hst hmd hs hl2
      go_wp2_with fail
      go_roundw
      case rel=>exact ⟨c+1,l,out,p,B,by omega,by go_num,HS5⟩
      case measure=>simp [intOf];omega
     ·obtain rfl:m=a:=by rw [←hmd.out.1,hm]
      have HZO:Hid (∀ i,i<l2.length→i≠a→nth (nrow l2 i) c=0):=hid (hmd.out.2 a rfl)
      have hal1:(a:Int)<l.length:=by omega
      obtain ⟨g,b,o,cR,q,L,Bq,cq,rfl,-,hBg,k1,-,hba,k2,k3,hq,-⟩:=hst.out.l.num (i:=a) (j:=c) ha (hst.out.col.ll a ha) HLT.out
      have HBA:=FIN.out l2 hst.out.col a ha
      have HRB:=hid HBA
      have HQ:=hq
      have HNZ:=hid hnz
      have HAL:=hid ha
      have HLA:=hid (hst.out.col.ll a ha)
      clear hm hmd hl2 hq hnz ha HBA
      go_upto_if 123 with (fail)
      go_cut [12] (fun v12 wx=>∃ R12 c12 pr,∃ s:Int,v12=.slice R12 n c12∧Hid (BSl wx (.slice R12 n c12) pr)∧Hid ((s=1∨s = -1)∧nth pr=(fun i=>s*nth (nrow l2 a) i)∧0<nth pr c)∧Hid (Below w3.heap.size w3 wx))
      case first =>
       cases q with
       | false =>
         go_wp2_with fail
         go_meet
         exact ⟨_,_,nrow l2 a,1,rfl,hba,hid ⟨.inl rfl,funext fun i=>by omega,by have h1:=of_decide_eq_false HQ.out.symm;have:=HNZ.out;omega⟩,hid (Below.refl _ _)⟩
       | true =>
         have hmk:=fun w=>run_makeBigs w n (by omega)
         have HOF:=hid (fun W=>rOf_calls 1 W (by omega))
         have HLS:=hid (fun (W:World) (v u:Value) (hk:Below w3.heap.size w3 W) (hz:MadeB n v W) (hu:RB W u 1)=>neg_is hz (hba.out.ext hk) hu (by omega) fun i=>HF.out.le (HRB.out i))
         go_wp2_with fail
         refine wp_region_kc (w0:=w3) 5 [124,125,126,127,128]
          [.c (.int .i64 n),.l none (leaf1 · (MadeB n)),.c (.slice (some ⟨b,o,none⟩) n cR),.l none (leaf1 · (fun v w=>RB w v 1)),.l none (leaf1 · (fun v w=>BSl w v (lessL (zeros n) (nrow l2 a) 1)))]
          [] NoBlk (by kernel_rfl) (by kernel_rfl) (by kernel_rfl) rfl (F:=?cFr25) ?r25c1 ?r25c2 ?r25c3 ?r25c4
         case r25c1 =>
          intro x
          simp only [fullC,Act.put,List.setIfInBounds_toArray,List.set_cons_zero,List.set_cons_succ]
          rfl
         case r25c2 =>
          exact ⟨keeps_calm (calm_made n) _ _ _ _ _,keeps_calm (calm_rb 1) _ _ _ _ _,keeps_calm (calm_bsl _) _ _ _ _ _,trivial⟩
         case r25c3 =>
          as_aux_lemma =>
           refine ⟨?_,?_,?_,?_,?_,trivial⟩
           all_goals
            intro xx wq HE hd K hK
            try have g1:=hd 1 _ (by decide) rfl
            try have g3:=hd 3 _ (by decide) rfl
            try have g4:=hd 4 _ (by decide) rfl
            have HE:=hid HE
            clear hd
            all_goals go_simp
            try (refine hK _ _ _ (mv_const _ rfl) ?_;dsimp only [Act.put];first|done|rfl|(simp [*];done))
           ·exact hK _ _ _ (mv_plain ((Below.refl _ _).alloc (Nat.le_refl _) _) ⟨_,rfl,zeroB_bigs _ _⟩ rfl) (by first|(dsimp only [Act.put];done)|(dsimp only [Act.put];first|rfl|(simp [*];done)|(simp [*,ptr];done)))
           ·refine (HOF.out wq).mono ?_
            rintro e w3 ⟨v,rfl,h1,h2⟩
            exact hK _ _ _ (mv_plain h2 h1.rb rfl) (by first|(dsimp only [Act.put];done)|(dsimp only [Act.put];first|rfl|(simp [*];done)|(simp [*,ptr];done)))
           ·refine (HLS.out wq _ _ HE.out g1 g3).mono ?_
            rintro e w3 ⟨v,rfl,h1,h2⟩
            exact hK _ _ _ (mv_plain h2 h1 rfl) (by first|(dsimp only [Act.put];done)|(dsimp only [Act.put];first|rfl|(simp [*];done)|(simp [*,ptr];done)))
         case r25c4 =>
          intro xx wz hE hG hA
          have g1:=hG 1 _ rfl
          have g3:=hG 3 _ rfl
          have g4:=hG 4 _ rfl
          have HZ6:Hid (BSl wz (xx 128) (lessL (zeros n) (nrow l2 a) 1)):=hid g4
          obtain ⟨R4,cR4,e4,-⟩:=id g4
          have hn4:(lessL (zeros n) (nrow l2 a) 1).length=n:=by rw [lessL_len];simp [zeros]
          rw [hn4] at e4
          rw [e4] at HZ6
          have HE6:=hid hE
          clear hG hA hE g1 g3 g4 hmk hn4
          (refine tail_one (i:=5) (by kernel_rfl) rfl ?_;intro K hK;go_simp;refine hK _ _ ?_;clear hK)
          refine wpAny_done (by kernel_rfl) ?_ _
          try simp only [Exit.inBlock,Exit.then]
          go_wp2_with fail
          go_meet
          refine ⟨_,_,_,-1,rfl,HZ6,hid ⟨.inr rfl,?_,?_⟩,HE6⟩
          ·have:=neg_vec (nrow l2 a)
           rw [HLA.out] at this
           rw [this];funext i;omega
          ·have:=neg_vec (nrow l2 a)
           rw [HLA.out] at this
           have h1:=of_decide_eq_true HQ.out.symm
           rw [this];show 0 < -nth (nrow l2 a) c
           omega
      case rest =>
       obtain ⟨R12,c12,pr,s,rfl,hpr,hps,hbx⟩:=hcut
       have HL6:Hid (OwnR wc B (.slice (some ⟨g,0,none⟩) l.length c5) l2):=hid (hst.out.l.ext hbx.out)
       have HO6:Hid (OwnR wc w.heap.size (.slice A6 out.length c6) out):=hid (hst.out.o.ext hbx.out)
       have HB6:Hid (Below w.heap.size w wc):=hid (hst.out.below.trans (hbx.out.mono hst.out.below.size))
       have HCI:Hid (ColInv l l2 n c (upM M out.length)):=hid hst.out.col
       have HPB:Hid (RowBd (upM M 6) pr):=hid fun i=>by
        have h1:=HRB.out i
        rw [hps.out.2.1];show (s*nth (nrow l2 a) i).natAbs≤_
        rcases hps.out.1 with rfl|rfl
        ·rw [Int.one_mul];exact h1
        ·rw [show (-1:Int)*nth (nrow l2 a) i = -nth (nrow l2 a) i by omega,Int.natAbs_neg];exact h1
       have HPL:Hid (pr.length=n):=hid hpr.out.at.1
       clear hst hba hbx HQ k1 k2 k3 HRB
       go_wp2_with fail
       go_loopw [13] (fun v13 wr=>∃ k:Nat,k≤out.length∧v13=.int .i64 k∧Hid (OwnR wr w.heap.size (.slice A6 out.length c6) (outTo out pr c k))∧Hid (OwnR wr B (.slice (some ⟨g,0,none⟩) l.length c5) l2)∧Hid (BSl wr (.slice R12 n c12) pr)∧Hid (Below w.heap.size w wr)) (fun v13 _=>out.length-(intOf v13).toNat)
       case atStart=>exact ⟨0,Nat.zero_le _,rfl,hid (by rw [outTo_zero];exact HO6.out),HL6,hpr,HB6⟩
       case round =>
        clear HO6 HL6 HB6 hpr
        obtain ⟨w6,hw6⟩:∃ W,W=wr:=⟨_,rfl⟩
        subst hw6
        obtain ⟨k,hk,rfl,hoo,hol,hpr,hbe⟩:=hrel
        by_cases hko:k<out.length
        ·have hk1:(k:Int)<out.length:=by omega
         have hck:k<(outTo out pr c k).length:=by rw [outTo_len];exact hko
         have hsk:nrow (outTo out pr c k) k=nrow out k:=by rw [outTo_at _ _ _ _ hko,if_neg (by omega)]
         have hlk:=hs.out.inv.form.len k hko
         obtain ⟨g6,b,o,cR,q1,L,Bq,cq,rfl,-,hB6,k1,-,hbk,k2,k3,-,hrb⟩:=hoo.out.num (i:=k) (j:=c) hck (by rw [hsk];exact hlk) HLT.out
         obtain ⟨b',o',q',L',Bq',cq',rfl,j2,j3,hra⟩:=hpr.out.num HLT.out
         rw [hsk] at hbk hrb
         have hso:=HF.out.step hlk HPL.out HLT.out (by omega) (by have:=hps.out.2.2;omega) (hs.out.inv.fine HM.out H6.out k hko) HPB.out
         have HFL:=hid (fun (W:World) (hk:Below w6.heap.size w6 W)=>rFloor_calls _ _ _ _ W (hrb.out.ext hk) (hra.out.ext hk) (hso.fa c hso.ca) (hso.fb c hso.cb) hso.nz)
         have HLS:=hid (fun (W:World) (u:Value) (hk:Below w6.heap.size w6 W) (hu:RB W u _)=>less_is (hbk.out.ext hk) (hpr.out.ext hk) hso hu)
         have HCK:=hid hck
         have HN:Hid ((outTo out pr c k).set k (clrR (nrow out k) pr c)=outTo out pr c (k+1)):=hid (outTo_succ out pr c hko)
         have HLC:Hid ((outTo out pr c k).length=out.length):=hid (outTo_len _ _ _ _)
         have hg6:g6<B:=hs.out.apart g6 rfl
         clear hbk hrb hra hso hlk hsk hck
         go_wp2_with fail
         refine wp_region_kc (w0:=w6) 20 [135,136,137,138,139,140,141,142,143,144,145,146,147,148,149,150,151,152,153,154]
          [.c (.slice (some ⟨g6,0,none⟩) out.length c6),.c (.int .i64 k),.c (.slice (some ⟨g6,0,none⟩) out.length c6),.c (.int .i64 k),.c (.pointer (some ⟨g6,k,none⟩)),.c (.slice (some ⟨b,o,none⟩) n cR),.c (.slice (some ⟨b',o',none⟩) n c12),.c (.slice (some ⟨g6,0,none⟩) out.length c6),.c (.int .i64 k),.c (.pointer (some ⟨g6,k,none⟩)),.c (.slice (some ⟨b,o,none⟩) n cR),.c (.int .i64 c),.c (.pointer (some ⟨b,o+c*2,none⟩)),.c (.agg #[.bool q1,.slice Bq L cq]),.c (.slice (some ⟨b',o',none⟩) n c12),.c (.int .i64 c),.c (.pointer (some ⟨b',o'+c*2,none⟩)),.c (.agg #[.bool q',.slice Bq' L' cq']),.l none (leaf1 · (fun v w=>RB w v (flr (nth (nrow out k) c) (nth pr c)))),.l none (leaf1 · (fun v w=>BSl w v (clrR (nrow out k) pr c)))]
          [] NoBlk (by kernel_rfl) (by kernel_rfl) (by kernel_rfl) rfl (F:=?cFr29) ?r29c1 ?r29c2 ?r29c3 ?r29c4
         case r29c1 =>
          intro x
          simp only [fullC,Act.put,List.setIfInBounds_toArray,List.set_cons_zero,List.set_cons_succ]
          rfl
         case r29c2 =>
          exact ⟨keeps_calm (calm_rb _) _ _ _ _ _,keeps_calm (calm_bsl _) _ _ _ _ _,trivial⟩
         case r29c3 =>
          as_aux_lemma =>
           refine ⟨?_,?_,?_,?_,?_,?_,?_,?_,?_,?_,?_,?_,?_,?_,?_,?_,?_,?_,?_,?_,trivial⟩
           all_goals
            intro xx wq HE hd K hK
            have hc:=(bcell HE).1
            have k1':=(hc _ _ (cell_lt k1)).trans k1
            have k2':=(hc _ _ (cell_lt k2)).trans k2
            have k3':=(hc _ _ (cell_lt k3)).trans k3
            have j2':=(hc _ _ (cell_lt j2)).trans j2
            have j3':=(hc _ _ (cell_lt j3)).trans j3
            try have g18:=hd 18 _ (by decide) rfl
            try have g19:=hd 19 _ (by decide) rfl
            have HE:=hid HE
            have HC:=hid hc
            clear hd hc
            all_goals go_simp
            try (refine hK _ _ _ (mv_const _ rfl) ?_;dsimp only [Act.put];first|done|rfl|(simp [*];done))
           ·refine (HFL.out wq HE.out).mono ?_
            rintro e w3 ⟨v,rfl,h1,h2⟩
            exact hK _ _ _ (mv_plain h2 h1.rb rfl) (by first|(dsimp only [Act.put];done)|(dsimp only [Act.put];first|rfl|(simp [*];done)|(simp [*,ptr];done)))
           ·refine (HLS.out wq _ HE.out g18).mono ?_
            rintro e w3 ⟨v,rfl,h1,h2⟩
            exact hK _ _ _ (mv_plain h2 h1 rfl) (by first|(dsimp only [Act.put];done)|(dsimp only [Act.put];first|rfl|(simp [*];done)|(simp [*,ptr];done)))
         case r29c4 =>
          intro xx wz hE hG hA
          have e3:xx 138=_:=hG 3 _ rfl
          have e4:xx 139=_:=hG 4 _ rfl
          have g18:=hG 18 _ rfl
          have g19:=hG 19 _ rfl
          have hoz:=hoo.out.ext hE
          obtain ⟨g3,R3,cR3,e3,-,hB3,cz,fz,-⟩:=hoz.row HCK.out
          injection e3 with e3
          injection e3 with e3 _ _
          subst e3
          obtain ⟨p1,p2,p3⟩:=hoz.put3 HLC.out hko g19
          have h19:∃ R4 n4 cR4,xx 154=.slice R4 n4 cR4:=by obtain ⟨R4,cR4,e4,-⟩:=g19;exact ⟨_,_,_,e4⟩
          rw [HN.out] at p1
          have HP1:=hid p1
          have HP2:=hid (p2 _ _ (hpr.out.ext hE))
          have HP3:=hid (p3 _ _ _ (hol.out.ext hE) (hol.out.far hg6))
          have HB7:=hid ((hbe.out.trans (hE.mono hbe.out.size)).setCell (p:=⟨g6,k,none⟩) hB3 (xx 154))
          obtain ⟨R4,n4,cR4,e19⟩:=h19
          rw [e19] at HP1 HP2 HP3 HB7
          clear hG hA hE hoz p1 p2 p3 g18 g19 HFL HLS
          (refine tail_one (i:=20) (by kernel_rfl) rfl ?_;intro K hK;go_simp;refine hK _ _ ?_;clear hK)
          (refine tail_one (i:=21) (by kernel_rfl) rfl ?_;intro K hK;go_simp;refine hK _ _ ?_;clear hK)
          refine wpAny_done (by kernel_rfl) ?_ _
          try simp only [Exit.inBlock,Exit.then]
          go_wp2
          go_roundw
          case rel=>exact ⟨k+1,by omega,by go_num,HP1,HP3,HP2,HB7⟩
          case measure=>simp [intOf];omega
        ·obtain rfl:k=out.length:=by omega
         have HLL:Hid ((outTo out pr c out.length).length≤1000):=hid (by rw [outTo_len];omega)
         have hwb:=hbe.out.size
         go_wp2_with (at_builtin;refine wp_snocR rfl _ _ rfl rfl rfl hoo.out hpr.out HLL.out hwb ?_)
         intro v6 w7 ho7 hb7 hkp
         have HL7:Hid (OwnR w7 B (.slice (some ⟨g,0,none⟩) l.length c5) l2):=hid (hkp.out _ _ _ hol.out (by
          by_cases e6:(Value.slice A6 out.length c6).ownBlock=none
          ·rw [e6];exact .inr (by simp [Value.ownBlock])
          ·obtain ⟨g6,hg6⟩:=Option.ne_none_iff_exists'.1 e6
           rw [hg6]
           exact hol.out.far (hs.out.apart g6 hg6)))
         have HB7:=hid (hb7.out _ _ hbe.out (Nat.le_refl _))
         clear hb7 hkp hol hpr hoo hwb hbe
         go_wp2_with fail
         go_loopw [14,15] (fun v14 v15 wr=>∃ k:Nat,k≤l.length∧v15=.int .i64 k∧Hid (OwnR wr w7.heap.size v14 (restTo l2 a k))∧Hid (Below w7.heap.size w7 wr)) (fun _ v15 _=>l.length-(intOf v15).toNat)
         case atStart=>exact ⟨0,Nat.zero_le _,rfl,hid (OwnR.nil _ _),hid (Below.refl _ _)⟩
         case round =>
          obtain ⟨w8,hw8⟩:∃ W,W=wr:=⟨_,rfl⟩
          subst hw8
          obtain ⟨k,hk,rfl,hr,hb8⟩:=hrel
          by_cases hkl:k<l.length
          ·have hk1:(k:Int)<l.length:=by omega
           by_cases hka:k=a
           ·have d0:((k:Int) != (a:Int))=false:=by simp [hka]
            have HR9:Hid (OwnR w8 w7.heap.size u14 (restTo l2 a (k+1))):=hid (by rw [restTo,if_pos hka];exact hr.out)
            clear hka hr
            go_wp2_with fail
            go_roundw
            case rel=>exact ⟨k+1,by omega,by go_num,HR9,hb8⟩
            case measure=>simp [intOf];omega
           ·have d0:((k:Int) != (a:Int))=true:=by simp;omega
            have hk2:k<l2.length:=by rw [HL2.out];exact hkl
            have hlk:=HCI.out.ll k hk2
            obtain ⟨g',b,o,cR,q1,L,Bq,cq,e',-,-,k1,-,hbk,-,-,-,-⟩:=(HL7.out.ext hb8.out).num (i:=k) (j:=c) hk2 hlk HLT.out
            injection e' with e'
            injection e' with e' _ _
            subst e'
            have HLL:Hid ((restTo l2 a k).length≤1000):=hid (by have:=restTo_len (l:=l2) (a:=a) k;omega)
            have HRN:Hid (restTo l2 a (k+1)=restTo l2 a k ++ [nrow l2 k]):=hid (by rw [restTo,if_neg hka])
            have hsz:=hb8.out.size
            obtain ⟨A14,c14,rfl,-⟩:=hr.out.at
            clear hka hk2 hlk
            go_wp2_with (at_builtin;refine wp_snocR rfl _ _ rfl rfl rfl hr.out hbk.out HLL.out hsz ?_)
            intro v14 w9 ho9 hb9 _
            have HB9:=hid (hb9.out _ _ hb8.out (Nat.le_refl _))
            have HR9:Hid (OwnR w9 w7.heap.size v14 (restTo l2 a (k+1))):=hid (by rw [HRN.out];exact ho9.out)
            clear hb9 ho9 hb8 hsz hr hbk
            go_wp2_with fail
            go_roundw
            case rel=>exact ⟨k+1,by omega,by go_num,HR9,HB9⟩
            case measure=>simp [intOf];omega
          ·obtain rfl:k=l.length:=by omega
           have HS9:Hid (NSt rs n M w (c+1) (restTo l2 a l2.length) (outTo out pr c out.length ++ [pr]) (fun i=>if i=out.length then c else p i) w7.heap.size u14 v6 w8):=hid
            ⟨hs.out.inv.next HM.out HCI.out HLT.out HAL.out HZO.out hps.out.1 hps.out.2.1 HPL.out hps.out.2.2,by rw [HL2.out];exact hr.out,ho7.out.ext hb8.out,HB7.out.size,fun g hg=>ho7.out.lt hg,HB7.out.trans (hb8.out.mono HB7.out.size)⟩
           clear hr hb8 hs HCI HZO hps HPB
           go_wp2
           go_roundw
           case rel=>exact ⟨c+1,_,_,_,_,by omega,by go_num,HS9⟩
           case measure=>simp [intOf];omega
  ·obtain rfl:c=n:=by omega
   go_wp2
   go_ret
   exact ⟨_,out,p,rfl,hs.out.o,⟨hs.out.inv.form,hs.out.inv.end_,by have:=hs.out.inv.cnt;omega⟩,hs.out.inv.fine HM.out H6.out,hs.out.below⟩
end
end Go.Proofs.YtkljafmdbajfeaaGreatDoor
