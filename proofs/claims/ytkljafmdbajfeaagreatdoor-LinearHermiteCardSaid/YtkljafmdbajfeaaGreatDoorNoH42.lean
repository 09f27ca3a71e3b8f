/- Lists of rows of the reference's whole numbers. -/
import Derived.Test.YtkljafmdbajfeaaGreatDoorNoH06
import Derived.Test.YtkljafmdbajfeaaGreatDoorNoH41
namespace Go.Proofs.YtkljafmdbajfeaaGreatDoor
set_option linter.unusedVariables false
set_option linter.unusedSimpArgs false
open Go.Lib (hid)
section
open Go.RowKit Go.ChangeMaps
theorem isSl_int {x:Value} (h:isSl x):∀ k n,x≠.int k n:=by
 obtain ⟨A,n,c,rfl⟩:=h;exact fun _ _=>by simp
theorem isSl_bool {x:Value} (h:isSl x):∀ b,x≠.bool b:=by
 obtain ⟨A,n,c,rfl⟩:=h;exact fun _=>by simp
theorem Rds.grownS {w w':World} {v:Value} {A:Option Addr} {ds:List Nat} (h:Rds w A ds) (hq:OwnC isSl w v) (hg:w.grownBy w' v.ownBlock):Rds w' A ds:=fun i hi=>by
 obtain ⟨b,off,e,hc⟩:=h i hi
 refine ⟨b,off,e,(World.cell?_of_block (a:=⟨b,off+i,none⟩) (hg.block b (cell_lt hc) fun e=>?_)).trans hc⟩
 exact isSl_int (hq b e.symm _ _ hc) _ _ rfl
theorem RB.grownS {w w':World} {v u:Value} {z:Int} (h:RB w u z) (hq:OwnC isSl w v) (hg:w.grownBy w' v.ownBlock):RB w' u z:=by
 obtain ⟨sl,h1,A,c,h2,h3,h4,h5⟩:=h
 exact ⟨sl,h1,A,c,h2,h3,h4,h5.grownS hq hg⟩
theorem BigsAt.grownS {w w':World} {v:Value} {A:Option Addr} {l:List Int} (h:BigsAt w A l) (hq:OwnC isSl w v) (hg:w.grownBy w' v.ownBlock):BigsAt w' A l:=fun i hi=>by
 obtain ⟨b,off,q,L,B,c,h1,h2,h3,h4⟩:=h i hi
 have hb:w'.heap[b]? = w.heap[b]? := hg.block b (cell_lt h2) fun e=>isSl_bool (hq b e.symm _ _ h2) _ rfl
 exact ⟨b,off,q,L,B,c,h1,(World.cell?_of_block (a:=⟨b,off+i*2,none⟩) hb).trans h2,(World.cell?_of_block (a:=⟨b,off+i*2+1,none⟩) hb).trans h3,h4.grownS hq hg⟩
def BSl (w:World) (v:Value) (l:List Int):Prop:=∃ A c,v=.slice A l.length c∧l.length≤c∧c≤maxLen∧BigsAt w A l
theorem BSl.ext {w w':World} {v:Value} {l:List Int} (h:BSl w v l) (hb:Below w.heap.size w w'):BSl w' v l:=by
 obtain ⟨A,c,h1,h2,h3,h4⟩:=h;exact ⟨A,c,h1,h2,h3,h4.ext hb⟩
theorem BSl.grownS {w w':World} {v u:Value} {l:List Int} (h:BSl w u l) (hq:OwnC isSl w v) (hg:w.grownBy w' v.ownBlock):BSl w' u l:=by
 obtain ⟨A,c,h1,h2,h3,h4⟩:=h;exact ⟨A,c,h1,h2,h3,h4.grownS hq hg⟩
theorem brow_app {rs:List (List Int)} {r:List Int} {i:Nat} (h:i<rs.length):nrow (rs ++ [r]) i=nrow rs i:=by simp [nrow,List.getElem?_append_left h]
theorem brow_last (rs:List (List Int)) (r:List Int):nrow (rs ++ [r]) rs.length=r:=by simp [nrow]
theorem brow_set {rs:List (List Int)} {r:List Int} {i j:Nat} (h:i<rs.length):nrow (rs.set i r) j=if j=i then r else nrow rs j:=by
 unfold nrow
 by_cases e:j=i
 ·subst e;simp [h]
 ·rw [if_neg e,List.getD_eq_getElem?_getD,List.getD_eq_getElem?_getD,List.getElem?_set_ne (Ne.symm e)]
structure OwnR (w:World) (base:Nat) (v:Value) (rs:List (List Int)):Prop where
 ex:∃ xs,w.ownsRow base 118 1 v rs.length xs∧OwnC isSl w v∧∀ i,i<rs.length→∃ u,xs[i]? = some u∧BSl w u (nrow rs i)
theorem OwnR.nil (w:World) (base:Nat):OwnR w base (.slice none 0 0) []:=⟨[],World.ownsRow_nil _ _ _ _,OwnC.nil _ _ _ _,fun i hi=>by simp at hi⟩
theorem OwnR.ext {w w':World} {base:Nat} {v:Value} {rs:List (List Int)} (h:OwnR w base v rs) (hb:Below w.heap.size w w'):OwnR w' base v rs:=by
 obtain ⟨xs,h1,h2,h3⟩:=h.ex
 exact ⟨xs,own_ext h1 hb,h2.ext h1 hb,fun i hi=>by obtain ⟨u,k1,k2⟩:=h3 i hi;exact ⟨u,k1,k2.ext hb⟩⟩
def RowsAt (w:World) (A:Option Addr) (rs:List (List Int)):Prop :=
 ∀ i,i<rs.length→∃ b off B c,A=some ⟨b,off,none⟩∧w.cell? ⟨b,off+i,none⟩=some (.slice B (nrow rs i).length c)∧(nrow rs i).length≤c∧c≤maxLen∧BigsAt w B (nrow rs i)
theorem RowsAt.ext {w w':World} {A:Option Addr} {rs:List (List Int)} (h:RowsAt w A rs) (hb:Below w.heap.size w w'):RowsAt w' A rs:=fun i hi=>by
 obtain ⟨b,off,B,c,h1,h2,h3,h4,h5⟩:=h i hi
 exact ⟨b,off,B,c,h1,by rw [hb.cell (cell_lt h2)];exact h2,h3,h4,h5.ext hb⟩
theorem OwnR.at {w:World} {base:Nat} {v:Value} {rs:List (List Int)} (h:OwnR w base v rs):∃ A c,v=.slice A rs.length c∧rs.length≤c∧c≤maxLen∧RowsAt w A rs:=by
 obtain ⟨xs,h1,h2,h3⟩:=h.ex
 obtain ⟨A,c,rfl,k1,k2⟩:=own_size h1
 refine ⟨A,c,rfl,k1,k2,fun i hi=>?_⟩
 obtain ⟨u,e1,B,c',rfl,e3,e4,e5⟩:=h3 i hi
 rcases h1.2 with ⟨e,e0⟩|⟨g,cap,cur,e,-⟩
 ·omega
 ·injection e with e _ _
  subst e
  exact ⟨g,0,B,c',rfl,by rw [Nat.zero_add,h1.cellAt _ (by omega)];exact e1,e3,e4,e5⟩
theorem infoBigs:(Tryz.prog.info? 118).map (fun i=>(i.zero,i.size,i.bytes))=some (some (.slice none 0 0),1,24):=by kernel_rfl
theorem OwnR.more {w w':World} {base:Nat} {v v' u:Value} {rs:List (List Int)} {r:List Int} {xs:List Value} (h2:OwnC isSl w v) (h3:∀ i,i<rs.length→∃ u,xs[i]? = some u∧BSl w u (nrow rs i)) (hx:xs.length=rs.length)
 (hu:BSl w u r) (hg:w.grownBy w' v.ownBlock) (ho:w'.ownsRow base 118 1 v' (rs.length+1) (xs ++ [u])) (hq:OwnC isSl w' v'):OwnR w' base v' (rs ++ [r]):=by
 refine ⟨xs ++ [u],by rw [List.length_append];exact ho,hq,fun i hi=>?_⟩
 rw [List.length_append,List.length_cons,List.length_nil] at hi
 by_cases e:i<rs.length
 ·obtain ⟨u',k1,k2⟩:=h3 i e
  exact ⟨u',by rw [List.getElem?_append_left (by omega)];exact k1,by rw [brow_app e];exact k2.grownS h2 hg⟩
 ·obtain rfl:i=rs.length:=by omega
  exact ⟨u,by rw [List.getElem?_append_right (by omega),hx];simp,by rw [brow_last];exact hu.grownS h2 hg⟩
theorem OwnR.kept {w w':World} {base2:Nat} {v v2:Value} {rs2:List (List Int)} (h2:OwnR w base2 v2 rs2) (hq:OwnC isSl w v) (hg:w.grownBy w' v.ownBlock) (hne:v2.ownBlock=none∨v2.ownBlock≠v.ownBlock):OwnR w' base2 v2 rs2:=by
 obtain ⟨xs,h1,ha,h3⟩:=h2.ex
 refine ⟨xs,h1.kept hg hne,fun g hb=>(ha g hb).same (hg.block g (World.ownsRow.lt h1 g hb).2 fun e=>?_),fun i hi=>by obtain ⟨u,k1,k2⟩:=h3 i hi;exact ⟨u,k1,k2.grownS hq hg⟩⟩
 rcases hne with e2|e2
 ·rw [hb] at e2;cases e2
 ·exact e2 (hb.trans e)
set_option maxRecDepth 100000 in
theorem wp_snocR {ops:Array Oper} {rest:List Oper} {o:Oper} {a:Act} {R:Exit→Act→World→Prop} (hgd:o.guard=none) (s x:Operand)
 (ho:o.op=.call { callee:=.builtin .append,args:=#[s,x],argTypes:=#[108,108] }) {wr:World} {base:Nat} {v u:Value} {rs:List (List Int)} {r:List Int} (hs:a.eval s=v)
 (hx:a.eval x=.slice (some ⟨wr.heap.size,0,none⟩) 1 1) (hown:OwnR wr base v rs) (hu:BSl wr u r) (hl:rs.length≤1000) (hb:base≤wr.heap.size)
 (h:∀ v' w',Hid (OwnR w' base v' (rs ++ [r]))→Hid (∀ (B:Nat) (w0:World),Below B w0 wr→B≤base→Below B w0 w')→Hid (∀ b2 v2 rs2,OwnR wr b2 v2 rs2→v2.ownBlock=none∨v2.ownBlock≠v.ownBlock→OwnR w' b2 v2 rs2)→wpList Tryz.prog ops R rest (a.put o.dst v') w') :
 wpList Tryz.prog ops R (o :: rest) a (wr.alloc (.cells #[u] 118 (0,0))):=by
 obtain ⟨i0,hi,hz0,hz1,hz2⟩:=info_parts infoBigs
 obtain ⟨xs,h1,h2,h3⟩:=hown.ex
 have hus:isSl u:=by obtain ⟨A,c,rfl,-⟩:=hu;exact ⟨_,_,_,rfl⟩
 have hu1:u.oneCell'=true:=by obtain ⟨A,n,c,rfl⟩:=hus;rfl
 have hb0:Below wr.heap.size wr (wr.alloc (.cells #[u] 118 (0,0))):=(Below.refl _ _).alloc (Nat.le_refl _) _
 refine wpList_append_all isSl hgd s x 108 ho base 118 i0 _ 24 Tryz.underlying108 hi hz0 hz1 hz2 rfl ⟨_,_,_,rfl⟩ v rs.length xs hs (own_ext h1 hb0) (h2.ext h1 hb0) ⟨wr.heap.size,0,none⟩ 1 1 [u] hx rfl ?_ ?_ ?_ (by omega) (by unfold maxLen;omega) (by omega) (by simp;omega) ?_
 ·intro j y hj
  rcases j with _|j
  ·simp at hj;subst hj;exact (Blk.new wr [u] 118).cell 0 (by simp)
  ·simp at hj
 ·intro y hy;simp at hy;subst hy;exact hu1
 ·intro y hy;simp at hy;subst hy;exact hus
 ·intro v' w' k1 k2 k3
  refine h v' w' (hid (OwnR.more (h2.ext h1 hb0) (fun i hi=>by obtain ⟨u,k1,k2⟩:=h3 i hi;exact ⟨u,k1,k2.ext hb0⟩) (by rw [h1.1,Nat.mul_one]) (hu.ext hb0) k2 k1 k3)) (hid fun B w0 hB hBb=>?_) (hid fun b2 v2 rs2 ho hne=>(ho.ext hb0).kept (h2.ext h1 hb0) k2 hne)
  exact (hB.alloc (by omega) _).grown k2 (by simp;omega) fun k hk=>Nat.le_trans hBb (World.ownsRow.lt h1 k hk).1
theorem OwnR.put {w:World} {base g c:Nat} {u:Value} {rs:List (List Int)} {r:List Int} {i:Nat} (h:OwnR w base (.slice (some ⟨g,0,none⟩) rs.length c) rs) (hi:i<rs.length) (hu:BSl w u r) :
 OwnR (w.setCell ⟨g,i,none⟩ u) base (.slice (some ⟨g,0,none⟩) rs.length c) (rs.set i r)∧(∀ t l,BSl w t l→BSl (w.setCell ⟨g,i,none⟩ u) t l)∧∀ b2 v2 rs2,OwnR w b2 v2 rs2→v2.ownBlock=none∨v2.ownBlock≠some g→OwnR (w.setCell ⟨g,i,none⟩ u) b2 v2 rs2:=by
 obtain ⟨xs,h1,h2,h3⟩:=h.ex
 have hus:isSl u:=by obtain ⟨A,c,rfl,-⟩:=hu;exact ⟨_,_,_,rfl⟩
 obtain ⟨k1,k2⟩:=h1.stored i u
 have hxl:xs.length=rs.length:=by rw [h1.1,Nat.mul_one]
 have hall:OwnC isSl (w.setCell ⟨g,i,none⟩ u) (.slice (some ⟨g,0,none⟩) rs.length c):=fun g' hg'=>by
  simp [Value.ownBlock] at hg'
  subst hg'
  intro o x hx
  by_cases e:o=i
  ·subst e
   have hc:w.cell? ⟨g,o,none⟩=xs[o]? := h1.cellAt o (by omega)
   obtain ⟨y,hy,-⟩:=h3 o hi
   rw [hy] at hc
   rw [World.cell?_setCell_same (h:=hc)] at hx
   injection hx with hx;subst hx;exact hus
  ·rw [World.cell?_setCell_other (h:=by intro e2;injection e2 with _ e3 _;exact e e3.symm)] at hx
   exact h2 g rfl o x hx
 refine ⟨⟨xs.set i u,by rw [List.length_set];exact k1,hall,fun j hj=>?_⟩,fun t l ht=>ht.grownS h2 k2,fun b2 v2 rs2 ho hne=>ho.kept h2 k2 hne⟩
 rw [List.length_set] at hj
 rw [brow_set hi]
 by_cases e:j=i
 ·subst e
  rw [if_pos rfl]
  exact ⟨u,by rw [List.getElem?_set_self (by omega)],hu.grownS h2 k2⟩
 ·rw [if_neg e]
  obtain ⟨y,k3,k4⟩:=h3 j hj
  exact ⟨y,by rw [List.getElem?_set_ne (Ne.symm e)];exact k3,k4.grownS h2 k2⟩
theorem OwnR.row {w:World} {base n c:Nat} {A:Option Addr} {rs:List (List Int)} (h:OwnR w base (.slice A n c) rs) {i:Nat} (hi:i<rs.length) :
 ∃ g R cR,A=some ⟨g,0,none⟩∧n=rs.length∧base≤g∧w.cell? ⟨g,i,none⟩=some (.slice R (nrow rs i).length cR)∧w.frozen? ⟨g,i,none⟩=false∧(nrow rs i).length≤cR∧cR≤maxLen∧BigsAt w R (nrow rs i):=by
 obtain ⟨xs,h1,h2,h3⟩:=h.ex
 obtain ⟨u,e1,B,c',rfl,e3,e4,e5⟩:=h3 i hi
 rcases h1.2 with ⟨e,e0⟩|⟨g,cap,cur,e,hb,hg,-⟩
 ·omega
 ·injection e with e en ec
  subst e;subst ec;subst en
  have hce:w.cell? ⟨g,i,none⟩=xs[i]? := h1.cellAt i (by omega)
  refine ⟨g,B,c',rfl,rfl,hb,hce.trans e1,?_,e3,e4,e5⟩
  simp [World.frozen?,hg]
end
section
open Go.RowKit Go.ChangeMaps
theorem OwnB.bsl {w:World} {base:Nat} {v:Value} {l:List Int} (h:OwnB w base v l):BSl w v l:=by
 obtain ⟨A,c,h1,h2,h3,h4⟩:=h.at;exact ⟨A,c,h1,h2,h3,h4⟩
set_option maxRecDepth 100000 in
set_option maxHeartbeats 1000000 in
theorem wide1_calls (A:Option Addr) (c:Nat) (l:List (List Int)) (w:World) (h:Grid w A l) (hl:l.length≤1000) (hr:∀ r∈l,r.length≤1000) (hx:∀ r∈l,∀ x∈r,-9000000000000000000≤x∧x≤9000000000000000000) :
 Calls Tryz.prog 87 #[.slice A l.length c] w fun e w'=>∃ v,e=.returned v∧OwnR w' w.heap.size v l∧Below w.heap.size w w':=by
 have HX:=hid hx;have HR:=hid hr
 clear hx hr
 go_enter Tryz.func87,Tryz.ntmps87
 go_wp2_with fail
 go_loopw [3,4] (fun v i wr=>∃ k:Nat,k≤l.length∧i=.int .i64 k∧OwnR wr w.heap.size v (l.take k)∧Below w.heap.size w wr) (fun _ i _=>l.length-(intOf i).toNat)
 case atStart=>exact ⟨0,Nat.zero_le _,rfl,OwnR.nil _ _,Below.refl _ _⟩
 case round =>
  obtain ⟨k,hk,rfl,hown,hbe⟩:=hrel
  have HB:=hid hbe;have HO:=hid hown
  by_cases hlt:k<l.length
  ·have h1:(k:Int)<l.length:=by omega
   obtain ⟨b1,o1,B,cb,rfl,g1,-,hN⟩:=(h.ext hbe) k hlt
   have HRW:=hid (row1_calls B cb (nrow l k) wr hN (HR.out _ (nrow_mem hlt)) (HX.out _ (nrow_mem hlt)))
   have HTK:Hid (l.take (k+1)=l.take k ++ [nrow l k]):=hid (take_nrow hlt)
   have HLT:Hid ((l.take k).length≤1000):=hid (by rw [List.length_take];omega)
   clear hown hbe h hN
   go_wp2_with fail
   refine HRW.out.mono ?_;rintro e w1 ⟨u,rfl,hu,hb1⟩
   have HU:=hid hu.bsl
   obtain ⟨A1,c1,rfl,-⟩:=hu.bsl
   have HB1:=hid (HB.out.trans (hb1.mono HB.out.size))
   have HO1:=hid (HO.out.ext hb1)
   have hs1:=HB1.out.size
   clear hu hb1 HRW HB HO
   go_wp2_with (at_builtin;refine wp_snocR rfl _ _ rfl rfl rfl HO1.out HU.out HLT.out (by omega) ?_)
   intro v' w2 ho hb2 _
   have HB2:=hid (hb2.out _ _ HB1.out (Nat.le_refl _))
   clear hs1 hb2 HB1 HO1
   go_wp2
   go_roundw
   case rel=>exact ⟨k+1,by omega,by go_num,by rw [HTK.out];exact ho.out,HB2.out⟩
   case measure=>simp [intOf];omega
  ·obtain rfl:k=l.length:=by omega
   clear hown hbe h
   go_wp2
   go_ret
   exact ⟨_,rfl,by have:=HO.out;rw [List.take_length] at this;exact this,HB.out⟩
def pivF (l:List Int):Int:=if h:∃ i,i<l.length∧nth l i≠0 then ((List.range l.length).find? fun i=>decide (nth l i≠0)).getD 0 else -1
theorem pivF_at {l:List Int} {k:Nat} (hk:k<l.length) (h0:∀ i,i<k→nth l i=0) (h:nth l k≠0):pivF l=k:=by
 unfold pivF
 rw [dif_pos ⟨k,hk,h⟩]
 have:(List.range l.length).find? (fun i=>decide (nth l i≠0))=some k:=by
  rw [List.find?_range_eq_some]
  exact ⟨by simpa using h,by simpa using hk,fun j hj=>by simpa using h0 j hj⟩
 rw [this];rfl
theorem pivF_no {l:List Int} (h0:∀ i,i<l.length→nth l i=0):pivF l = -1:=by
 unfold pivF
 rw [dif_neg (fun ⟨i,h1,h2⟩=>h2 (h0 i h1))]
set_option maxRecDepth 100000 in
set_option maxHeartbeats 1000000 in
theorem pivot1_calls (A:Option Addr) (c:Nat) (l:List Int) (w:World) (h:BigsAt w A l) (hl:l.length≤1000) (hf:∀ i,i<l.length→Few (nth l i)) :
 Calls Tryz.prog 149 #[.slice A l.length c] w fun e w'=>e=.returned (.int .i64 (pivF l))∧Below w.heap.size w w':=by
 have HF:=hid hf
 clear hf
 go_enter Tryz.func149,Tryz.ntmps149
 go_wp2_with fail
 go_loopw [3] (fun i wr=>∃ k:Nat,k≤l.length∧i=.int .i64 k∧Hid (∀ i,i<k→nth l i=0)∧Below w.heap.size w wr) (fun i _=>l.length-(intOf i).toNat)
 case atStart=>exact ⟨0,Nat.zero_le _,rfl,hid fun i hi=>by omega,Below.refl _ _⟩
 case round =>
  obtain ⟨k,hk,rfl,hz,hbe⟩:=hrel
  have HB:=hid hbe
  by_cases hlt:k<l.length
  ·have h1:(k:Int)<l.length:=by omega
   obtain ⟨b1,o1,q,L,B,cb,rfl,g1,g2,hN⟩:=(h.ext hbe) k hlt
   have HZ:=hid (rZero_calls _ _ wr hN (HF.out k hlt))
   clear hbe h hN
   by_cases h0:nth l k=0
   ·have hd:decide (nth l k=0)=true:=decide_eq_true h0
    rw [hd] at HZ
    have HN:Hid (∀ i,i<k+1→nth l i=0):=hid fun i hi=>by
     rcases Nat.lt_or_ge i k with h1|h1
     ·exact hz.out i h1
     ·obtain rfl:i=k:=by omega
      exact h0
    clear hd h0
    go_wp2_with fail
    refine HZ.out.mono ?_;rintro e w1 ⟨rfl,hb1⟩
    have HB1:=hid (HB.out.trans (hb1.mono HB.out.size))
    clear hb1 HZ HB g1 g2
    go_wp2
    go_roundw
    case rel=>exact ⟨k+1,by omega,by go_num,HN,HB1.out⟩
    case measure=>simp [intOf];omega
   ·have hd:decide (nth l k=0)=false:=decide_eq_false h0
    rw [hd] at HZ
    have HP:Hid (pivF l=k):=hid (pivF_at hlt hz.out h0)
    clear hd h0
    go_wp2_with fail
    refine HZ.out.mono ?_;rintro e w1 ⟨rfl,hb1⟩
    have HB1:=hid (HB.out.trans (hb1.mono HB.out.size))
    clear hb1 HZ HB g1 g2
    go_wp2
    go_ret
    exact ⟨by rw [HP.out];rfl,HB1.out⟩
  ·obtain rfl:k=l.length:=by omega
   have HP:Hid (pivF l = -1):=hid (pivF_no hz.out)
   clear hbe h
   go_wp2
   go_ret
   exact ⟨by rw [HP.out];rfl,HB.out⟩
end
section
open Go.RowKit Go.ChangeMaps
structure StepOk (la lb:List Int) (c:Nat):Prop where
 ca:c<la.length
 cb:c<lb.length
 len:la.length≤lb.length
 max:lb.length≤1000
 nz:nth lb c≠0
 fa:∀ i,i<la.length→Few (nth la i)
 fb:∀ i,i<lb.length→Few (nth lb i)
 fq:Few (flr (nth la c) (nth lb c))
 fp:∀ i,i<la.length→Few (flr (nth la c) (nth lb c)*nth lb i)
def clrR (la lb:List Int) (c:Nat):List Int:=lessL la lb (flr (nth la c) (nth lb c))
def rdTo (rs:List (List Int)) (v:List Int):Nat→List Int
 | 0=>v
 | k+1=>clrR (rdTo rs v k) (nrow rs k) (pivF (nrow rs k)).toNat
theorem rdTo_len (rs:List (List Int)) (v:List Int):∀ k,(rdTo rs v k).length=v.length
 | 0=>rfl
 | k+1=>by rw [rdTo,clrR,lessL_len,rdTo_len rs v k]
end
section
def clearRow (l:List (List Int)) (c a i:Nat):List Int:=if i=a∨nth (nrow l i) c=0 then nrow l i else clrR (nrow l i) (nrow l a) c
def clearTo (l:List (List Int)) (c a k:Nat):List (List Int):=(List.range l.length).map fun i=>if i<k then clearRow l c a i else nrow l i
theorem clearTo_len (l:List (List Int)) (c a k:Nat):(clearTo l c a k).length=l.length:=by simp [clearTo]
theorem clearTo_at (l:List (List Int)) (c a k:Nat) {i:Nat} (h:i<l.length):nrow (clearTo l c a k) i=if i<k then clearRow l c a i else nrow l i:=by
 rw [nrow_lt (by rw [clearTo_len];exact h)];simp [clearTo]
structure ColMin (l:List (List Int)) (c a:Nat):Prop where
 lt:a<l.length
 nz:nth (nrow l a) c≠0
 min:∀ i,i<l.length→nth (nrow l i) c≠0→(nth (nrow l a) c).natAbs≤(nth (nrow l i) c).natAbs
theorem clearRow_col {l:List (List Int)} {c a i:Nat} (h:ColMin l c a) (hi:i≠a) :
 (nth (clearRow l c a i) c).natAbs<(nth (nrow l a) c).natAbs∧(0<nth (nrow l a) c→0≤nth (clearRow l c a i) c)∧(nth (nrow l a) c<0→nth (clearRow l c a i) c≤0):=by
 have hz:=h.nz
 unfold clearRow
 by_cases h0:nth (nrow l i) c=0
 ·rw [if_pos (.inr h0),h0];exact ⟨by omega,by omega,by omega⟩
 ·rw [if_neg (by rintro (e|e);exact hi e;exact h0 e)]
  have hc:c<(nrow l i).length:=Classical.byContradiction fun hn=>h0 (nth_out (by omega))
  unfold clrR
  rw [lessL_nth _ _ _ hc]
  exact flr_res _ _ hz
def ColA (c E:Nat) (l:List (List Int)):Prop :=
 ∃ B P:Nat,∃ s:Int,(s=1∨s = -1)∧1≤P∧(∀ i,i<l.length→RowBd B (nrow l i))∧(∀ i,i<l.length→0≤s*nth (nrow l i) c∧s*nth (nrow l i) c≤P)∧(∃ j,j<l.length∧s*nth (nrow l j) c=P) ∧
  ∃ j,j<l.length∧nth (nrow l j) c≠0∧B*(P*(P*(nth (nrow l j) c).natAbs))≤E
def ColF (c E:Nat) (l:List (List Int)):Prop :=
 (∃ a,a<l.length∧nth (nrow l a) c≠0∧∀ i,i<l.length→i≠a→nth (nrow l i) c=0)∧∀ i,i<l.length→RowBd (2*E) (nrow l i)
theorem natAbs_sgn {s x:Int} (hs:s=1∨s = -1) (h:0≤s*x):s*x=x.natAbs:=by
 rcases hs with rfl|rfl<;>omega
theorem ColA.step {c E a:Nat} {l:List (List Int)} (h:ColA c E l) (ha:ColMin l c a):ColA c E (clearTo l c a l.length)∨ColF c E (clearTo l c a l.length):=by
 obtain ⟨B,P,s,hs,hP,hB,hc,⟨j,hj,hjP⟩,j2,hj2,hz2,hE⟩:=h
 have hat:∀ i,i<l.length→nrow (clearTo l c a l.length) i=clearRow l c a i:=fun i hi=>by rw [clearTo_at l c a l.length hi,if_pos hi]
 have hlen:=clearTo_len l c a l.length
 obtain ⟨m,hm⟩:∃ m,(nth (nrow l a) c).natAbs=m:=⟨_,rfl⟩
 have hnz:=ha.nz
 have hm1:1≤m:=by omega
 have hsz:∀ i,i<l.length→s*nth (nrow l i) c=(nth (nrow l i) c).natAbs:=fun i hi=>natAbs_sgn hs (hc i hi).1
 have hle:∀ i,i<l.length→(nth (nrow l i) c).natAbs≤P:=fun i hi=>by have:=hsz i hi;have:=(hc i hi).2;omega
 have hmP:m≤P:=by have:=hle a ha.lt;omega
 have hra:clearRow l c a a=nrow l a:=by unfold clearRow;rw [if_pos (.inl rfl)]
 -- what a row leaves
 have hrow:∀ i,i<l.length→i≠a→nth (nrow l i) c≠0→∃ q,q*m≤P∧(nth (clearRow l c a i) c).natAbs+q*m=(nth (nrow l i) c).natAbs∧RowBd (B+q*B) (clearRow l c a i):=fun i hi hne h0=>by
  have hci:c<(nrow l i).length:=Classical.byContradiction fun hn=>h0 (nth_out (by omega))
  have hsg:(0≤nth (nrow l i) c∧0<nth (nrow l a) c)∨(nth (nrow l i) c≤0∧nth (nrow l a) c<0):=by
   have h1:=hc i hi;have h2:=hc a ha.lt
   rcases hs with rfl|rfl
   ·left;omega
   ·right;omega
  obtain ⟨f1,f2⟩:=flr_same _ _ hnz hsg
  refine ⟨(flr (nth (nrow l i) c) (nth (nrow l a) c)).natAbs,by have:=hle i hi;rw [←hm];omega,?_,?_⟩
  ·unfold clearRow
   rw [if_neg (by rintro (e|e);exact hne e;exact h0 e)]
   unfold clrR
   rw [lessL_nth _ _ _ hci,←hm];exact f2
  ·unfold clearRow
   rw [if_neg (by rintro (e|e);exact hne e;exact h0 e)]
   exact lessL_bd (hB i hi) (hB a ha.lt) (Nat.le_refl _)
 have hbd:∀ i,i<l.length→RowBd (B+P / m*B) (clearRow l c a i):=fun i hi=>by
  by_cases hk:i=a∨nth (nrow l i) c=0
  ·unfold clearRow;rw [if_pos hk];exact (hB i hi).mono (Nat.le_add_right _ _)
  ·obtain ⟨q,h1,-,h3⟩:=hrow i hi (fun e=>hk (.inl e)) (fun e=>hk (.inr e))
   refine h3.mono (Nat.add_le_add_left (Nat.mul_le_mul_right _ ?_) _)
   exact (Nat.le_div_iff_mul_le (by omega)).2 h1
 have hB2:=round_bd (B:=B) (P:=P) (m:=m) (q:=P / m) (by omega) hmP (Nat.div_mul_le_self _ _)
 have hBP:B*P≤E:=by
  have h1:1≤P*(nth (nrow l j2) c).natAbs:=Nat.mul_pos (by omega) (by omega)
  have h2:P*1≤P*(P*(nth (nrow l j2) c).natAbs):=Nat.mul_le_mul_left _ h1
  have h3:=Nat.mul_le_mul_left B h2
  rw [Nat.mul_one] at h3
  omega
 have hEm:B*(P*(P*m))≤E:=Nat.le_trans (Nat.mul_le_mul_left _ (Nat.mul_le_mul_left _ (Nat.mul_le_mul_left _ (by have:=ha.min j2 hj2 hz2;omega)))) hE
 by_cases hex:∃ i,i<l.length∧i≠a∧nth (clearRow l c a i) c≠0
 ·left
  obtain ⟨i,hi,hia,hi0⟩:=hex
  have hlt:=fun i hne=>(clearRow_col (i:=i) ha hne)
  have hx:∀ i,i<l.length→i≠a→nth (clearRow l c a i) c≠0→nth (nrow l i) c≠0:=fun i hi hne h0 e=>h0 (by unfold clearRow;rw [if_pos (.inr e),e])
  have hmlt:m<P:=by
   refine Classical.byContradiction fun hn=>?_
   obtain rfl:m=P:=by omega
   obtain ⟨q,h1,h2,-⟩:=hrow i hi hia (hx i hi hia hi0)
   have h3:=ha.min i hi (hx i hi hia hi0)
   have h4:=hle i hi
   have h5:=(hlt i hia).1
   rcases Nat.lt_or_ge q 1 with h6|h6
   ·have:q=0:=by omega
    subst this;omega
   ·have:=Nat.mul_le_mul_right m h6
    omega
  have hsmall:∃ k,k<l.length∧k≠a∧nth (clearRow l c a k) c≠0∧2*(nth (clearRow l c a k) c).natAbs≤P:=by
   by_cases h2m:2*m≤P
   ·exact ⟨i,hi,hia,hi0,by have:=(hlt i hia).1;omega⟩
   ·have hja:j≠a:=fun e=>by
     subst e
     have:=hsz j hj;omega
    have hjz:nth (nrow l j) c≠0:=by
     intro e;rw [e] at hjP;omega
    obtain ⟨q,h1,h2,-⟩:=hrow j hj hja hjz
    have h3:=hsz j hj
    have h5:=(hlt j hja).1
    rcases Nat.lt_or_ge q 1 with h6|h6
    ·have:q=0:=by omega
     subst this;omega
    ·have h7:q=1:=by
      refine Classical.byContradiction fun hn=>?_
      have:=Nat.mul_le_mul_right m (show 2≤q by omega)
      omega
     subst h7
     exact ⟨j,hj,hja,by omega,by omega⟩
  obtain ⟨k,hk,hka,hk0,hk2⟩:=hsmall
  refine ⟨B+P / m*B,m,s,hs,hm1,fun i hi=>by rw [hlen] at hi;rw [hat i hi];exact hbd i hi,fun i hi=>?_,⟨a,by rw [hlen];exact ha.lt,by rw [hat a ha.lt,hra,hsz a ha.lt,hm]⟩,k,by rw [hlen];exact hk,by rw [hat k hk];exact hk0,by rw [hat k hk];exact pot_step hEm hB2 hk2⟩
  rw [hlen] at hi
  rw [hat i hi]
  by_cases hia:i=a
  ·subst hia;rw [hra,hsz i hi,hm];omega
  ·have h1:=hlt i hia
   have h2:=hc a ha.lt
   rcases hs with rfl|rfl
   ·have:=h1.2.1 (by omega);omega
   ·have:=h1.2.2 (by omega);omega
 ·right
  refine ⟨⟨a,by rw [hlen];exact ha.lt,by rw [hat a ha.lt,hra];exact hnz,fun i hi hne=>?_⟩,fun i hi=>?_⟩
  ·rw [hlen] at hi
   rw [hat i hi]
   exact Classical.byContradiction fun hn=>hex ⟨i,hi,hne,hn⟩
  ·rw [hlen] at hi
   rw [hat i hi]
   refine (hbd i hi).mono ?_
   have:B+P / m*B≤(B+P / m*B)*m:=Nat.le_mul_of_pos_right _ (by omega)
   omega
theorem ColA.first {c M a:Nat} {l:List (List Int)} (hM:∀ i,i<l.length→RowBd M (nrow l i)) (ha:ColMin l c a):ColA c (3*(M*M)*(M*M)) (clearTo l c a l.length)∨ColF c (3*(M*M)*(M*M)) (clearTo l c a l.length):=by
 have hat:∀ i,i<l.length→nrow (clearTo l c a l.length) i=clearRow l c a i:=fun i hi=>by rw [clearTo_at l c a l.length hi,if_pos hi]
 have hlen:=clearTo_len l c a l.length
 obtain ⟨m,hm⟩:∃ m,(nth (nrow l a) c).natAbs=m:=⟨_,rfl⟩
 have hnz:=ha.nz
 have hm1:1≤m:=by omega
 have hmM:m≤M:=by have:=hM a ha.lt c;omega
 have hra:clearRow l c a a=nrow l a:=by unfold clearRow;rw [if_pos (.inl rfl)]
 have hbd:∀ i,i<l.length→RowBd (M+(M+m) / m*M) (clearRow l c a i):=fun i hi=>by
  unfold clearRow
  by_cases hk:i=a∨nth (nrow l i) c=0
  ·rw [if_pos hk];exact (hM i hi).mono (Nat.le_add_right _ _)
  ·rw [if_neg hk]
   refine lessL_bd (hM i hi) (hM a ha.lt) ((Nat.le_div_iff_mul_le (by omega)).2 ?_)
   have h1:=flr_bd (nth (nrow l i) c) (nth (nrow l a) c) hnz
   have h2:=hM i hi c
   rw [hm] at h1
   omega
 have hB:=first_bd (M:=M) (m:=m) (q:=(M+m) / m) (by omega) hmM (Nat.div_mul_le_self _ _)
 have hlt:=fun i hne=>(clearRow_col (i:=i) ha hne)
 by_cases hex:∃ i,i<l.length∧i≠a∧nth (clearRow l c a i) c≠0
 ·left
  obtain ⟨i,hi,hia,hi0⟩:=hex
  obtain ⟨s,hs,hsa⟩:∃ s:Int,(s=1∨s = -1)∧s*nth (nrow l a) c=m:=by
   by_cases h:0<nth (nrow l a) c
   ·exact ⟨1,.inl rfl,by omega⟩
   ·exact ⟨-1,.inr rfl,by omega⟩
  refine ⟨M+(M+m) / m*M,m,s,hs,hm1,fun i hi=>by rw [hlen] at hi;rw [hat i hi];exact hbd i hi,fun i hi=>?_,⟨a,by rw [hlen];exact ha.lt,by rw [hat a ha.lt,hra,hsa]⟩,i,by rw [hlen];exact hi,by rw [hat i hi];exact hi0,?_⟩
  ·rw [hlen] at hi
   rw [hat i hi]
   by_cases hia:i=a
   ·subst hia;rw [hra,hsa];omega
   ·have h1:=hlt i hia
    rcases hs with rfl|rfl
    ·have:=h1.2.1 (by omega);omega
    ·have:=h1.2.2 (by omega);omega
  ·rw [hat i hi]
   have h1:=(hlt i hia).1
   rw [hm] at h1
   obtain ⟨x,hx⟩:∃ x,(nth (clearRow l c a i) c).natAbs=x:=⟨_,rfl⟩
   rw [hx] at h1 ⊢
   have h2:m*x≤M*M:=Nat.mul_le_mul hmM (by omega)
   rw [←Nat.mul_assoc]
   exact Nat.mul_le_mul hB h2
 ·right
  refine ⟨⟨a,by rw [hlen];exact ha.lt,by rw [hat a ha.lt,hra];exact hnz,fun i hi hne=>?_⟩,fun i hi=>?_⟩
  ·rw [hlen] at hi
   rw [hat i hi]
   exact Classical.byContradiction fun hn=>hex ⟨i,hi,hne,hn⟩
  ·rw [hlen] at hi
   rw [hat i hi]
   refine (hbd i hi).mono ?_
   have h1:M+(M+m) / m*M≤(M+(M+m) / m*M)*m:=Nat.le_mul_of_pos_right _ (by omega)
   have h2:3*(M*M)≤3*(M*M)*(M*M):=Nat.le_mul_of_pos_right _ (Nat.mul_pos (by omega) (by omega))
   omega
theorem ColA.bd {c E:Nat} {l:List (List Int)} (h:ColA c E l):∀ i,i<l.length→RowBd E (nrow l i):=by
 obtain ⟨B,P,s,hs,hP,hB,-,-,j2,hj2,hz2,hE⟩:=h
 intro i hi
 refine (hB i hi).mono ?_
 have h1:1≤P*(P*(nth (nrow l j2) c).natAbs):=Nat.mul_pos (by omega) (Nat.mul_pos (by omega) (by omega))
 have:=Nat.le_mul_of_pos_right B h1
 omega
theorem ColF.still {c E a:Nat} {l:List (List Int)} (h:ColF c E l) (ha:ColMin l c a):∀ i,i<l.length→clearRow l c a i=nrow l i:=by
 obtain ⟨⟨b,hb,hbz,hoth⟩,-⟩:=h
 intro i hi
 unfold clearRow
 by_cases hk:i=a∨nth (nrow l i) c=0
 ·rw [if_pos hk]
 ·exfalso
  have h1:a=b:=Classical.byContradiction fun hn=>ha.nz (hoth a ha.lt hn)
  have h2:i=b:=Classical.byContradiction fun hn=>hk (.inr (hoth i hi hn))
  exact hk (.inl (by omega))
theorem sum_le_of {f g:Nat→Nat}:∀ n,(∀ i,i<n→f i≤g i)→((List.range n).map f).sum≤((List.range n).map g).sum
 | 0,_=>Nat.le_refl _
 | n+1,h=>by
   rw [List.range_succ,List.map_append,List.map_append,List.sum_append,List.sum_append]
   exact Nat.add_le_add (sum_le_of n fun i hi=>h i (by omega)) (by simpa using h n (by omega))
theorem sum_lt_of {f g:Nat→Nat}:∀ n,(∀ i,i<n→f i≤g i)→(∃ i,i<n∧f i<g i)→((List.range n).map f).sum<((List.range n).map g).sum
 | 0,_,⟨i,hi,_⟩=>absurd hi (by omega)
 | n+1,h,⟨i,hi,hlt⟩=>by
   rw [List.range_succ,List.map_append,List.map_append,List.sum_append,List.sum_append]
   by_cases e:i=n
   ·subst e
    exact Nat.add_lt_add_of_le_of_lt (sum_le_of i fun k hk=>h k (by omega)) (by simpa using hlt)
   ·exact Nat.add_lt_add_of_lt_of_le (sum_lt_of n (fun k hk=>h k (by omega)) ⟨i,by omega,hlt⟩) (by simpa using h n (by omega))
def colSum (l:List (List Int)) (c:Nat):Nat:=((List.range l.length).map fun i=>(nth (nrow l i) c).natAbs).sum
theorem colSum_lt {l:List (List Int)} {c a:Nat} (h:ColMin l c a) (hex:∃ i,i<l.length∧i≠a∧nth (nrow l i) c≠0):colSum (clearTo l c a l.length) c<colSum l c:=by
 unfold colSum
 rw [clearTo_len]
 have hle:∀ i,i<l.length→(nth (nrow (clearTo l c a l.length) i) c).natAbs≤(nth (nrow l i) c).natAbs:=fun i hi=>by
  rw [clearTo_at l c a l.length hi,if_pos hi]
  by_cases hk:i=a∨nth (nrow l i) c=0
  ·unfold clearRow;rw [if_pos hk];exact Nat.le_refl _
  ·have h1:=(clearRow_col (i:=i) h (fun e=>hk (.inl e))).1
   have h2:=h.min i hi (fun e=>hk (.inr e))
   omega
 obtain ⟨i,hi,hia,hi0⟩:=hex
 refine sum_lt_of _ hle ⟨i,hi,?_⟩
 rw [clearTo_at l c a l.length hi,if_pos hi]
 have h1:=(clearRow_col (i:=i) h hia).1
 have h2:=h.min i hi hi0
 omega
def minTo (l:List (List Int)) (c:Nat):Nat→Int
 | 0 => -1
 | k+1=>if nth (nrow l k) c≠0∧(minTo l c k<0∨(nth (nrow l k) c).natAbs<(nth (nrow l (minTo l c k).toNat) c).natAbs) then (k:Int) else minTo l c k
theorem minTo_spec (l:List (List Int)) (c:Nat):∀ k,(minTo l c k = -1∧∀ i,i<k→nth (nrow l i) c=0)∨∃ a:Nat,minTo l c k=a∧a<k∧nth (nrow l a) c≠0∧∀ i,i<k→nth (nrow l i) c≠0→(nth (nrow l a) c).natAbs≤(nth (nrow l i) c).natAbs
 | 0=>.inl ⟨rfl,fun i hi=>absurd hi (by omega)⟩
 | k+1=>by
   rcases minTo_spec l c k with ⟨h1,h2⟩|⟨a,h1,h2,h3,h4⟩
   ·by_cases h0:nth (nrow l k) c=0
    ·left
     refine ⟨by rw [minTo,if_neg (fun h=>h.1 h0),h1],fun i hi=>?_⟩
     rcases Nat.lt_or_ge i k with e|e
     ·exact h2 i e
     ·obtain rfl:i=k:=by omega
      exact h0
    ·right
     refine ⟨k,by rw [minTo,if_pos ⟨h0,.inl (by omega)⟩],by omega,h0,fun i hi hn=>?_⟩
     rcases Nat.lt_or_ge i k with e|e
     ·exact absurd (h2 i e) hn
     ·obtain rfl:i=k:=by omega
      exact Nat.le_refl _
   ·right
    by_cases hc:nth (nrow l k) c≠0∧(nth (nrow l k) c).natAbs<(nth (nrow l a) c).natAbs
    ·refine ⟨k,by rw [minTo,h1,if_pos ⟨hc.1,.inr (by simpa using hc.2)⟩],by omega,hc.1,fun i hi hn=>?_⟩
     rcases Nat.lt_or_ge i k with e|e
     ·have:=h4 i e hn;omega
     ·obtain rfl:i=k:=by omega
      exact Nat.le_refl _
    ·refine ⟨a,?_,by omega,h3,fun i hi hn=>?_⟩
     ·rw [minTo,h1,if_neg]
      rintro ⟨e1,e2|e2⟩
      ·omega
      ·exact hc ⟨e1,by simpa using e2⟩
     ·rcases Nat.lt_or_ge i k with e|e
      ·exact h4 i e hn
      ·obtain rfl:i=k:=by omega
       exact Classical.byContradiction fun hh=>hc ⟨hn,by omega⟩
theorem minTo_col {l:List (List Int)} {c a:Nat} (h:minTo l c l.length=(a:Int)):ColMin l c a:=by
 rcases minTo_spec l c l.length with ⟨h1,h2⟩|⟨b,h1,h2,h3,h4⟩
 ·omega
 ·obtain rfl:a=b:=by omega
  exact ⟨h2,h3,h4⟩
end
section
open Lp (V Gen)
def RowV (l:List (List Int)) (v:V):Prop:=∃ i,i<l.length∧v=nth (nrow l i)
theorem lessL_vec {la lb:List Int} {q:Int} (h:lb.length≤la.length):nth (lessL la lb q)=fun i=>nth la i + -q*nth lb i:=funext fun i=>by
 by_cases hi:i<la.length
 ·rw [lessL_nth la lb q hi];grind
 ·rw [nth_out (by rw [lessL_len];omega),nth_out (l:=la) (by omega),nth_out (l:=lb) (by omega)];omega
theorem clearRow_vec {l:List (List Int)} {c a i n:Nat} (hw:∀ i,i<l.length→(nrow l i).length=n) (hi:i<l.length) (ha:a<l.length):∃ q:Int,nth (clearRow l c a i)=(fun k=>nth (nrow l i) k+q*nth (nrow l a) k)∧(i=a→q=0):=by
 unfold clearRow
 by_cases hk:i=a∨nth (nrow l i) c=0
 ·rw [if_pos hk];exact ⟨0,funext fun k=>by grind,fun _=>rfl⟩
 ·rw [if_neg hk]
  exact ⟨_,lessL_vec (by rw [hw a ha,hw i hi];exact Nat.le_refl _),fun e=>absurd (.inl e) hk⟩
theorem clearTo_gen {l:List (List Int)} {c a n:Nat} (hw:∀ i,i<l.length→(nrow l i).length=n) (ha:a<l.length) (x:V):Gen (RowV (clearTo l c a l.length)) x↔Gen (RowV l) x:=by
 have hat:∀ i,i<l.length→nrow (clearTo l c a l.length) i=clearRow l c a i:=fun i hi=>by rw [clearTo_at l c a l.length hi,if_pos hi]
 have hra:clearRow l c a a=nrow l a:=by unfold clearRow;rw [if_pos (.inl rfl)]
 constructor
 ·refine Gen.lift fun r hr=>?_
  obtain ⟨i,hi,rfl⟩:=hr
  rw [clearTo_len] at hi
  rw [hat i hi]
  obtain ⟨q,h1,-⟩:=clearRow_vec (c:=c) hw hi ha
  rw [h1]
  exact (Gen.one ⟨i,hi,rfl⟩).addMul q (Gen.one ⟨a,ha,rfl⟩)
 ·refine Gen.lift fun r hr=>?_
  obtain ⟨i,hi,rfl⟩:=hr
  obtain ⟨q,h1,-⟩:=clearRow_vec (c:=c) hw hi ha
  have g1:Gen (RowV (clearTo l c a l.length)) (nth (clearRow l c a i)):=Gen.one ⟨i,by rw [clearTo_len];exact hi,by rw [hat i hi]⟩
  have g2:Gen (RowV (clearTo l c a l.length)) (nth (nrow l a)):=Gen.one ⟨a,by rw [clearTo_len];exact ha,by rw [hat a ha,hra]⟩
  refine (g1.addMul (-q) g2).cast fun k=>?_
  rw [h1];grind
theorem clearRow_len {l:List (List Int)} {c a i:Nat}:(clearRow l c a i).length=(nrow l i).length:=by
 unfold clearRow
 by_cases hk:i=a∨nth (nrow l i) c=0
 ·rw [if_pos hk]
 ·rw [if_neg hk];unfold clrR;rw [lessL_len]
theorem clearRow_low {l:List (List Int)} {c a i k:Nat} (hi:nth (nrow l i) k=0) (ha:nth (nrow l a) k=0):nth (clearRow l c a i) k=0:=by
 unfold clearRow
 by_cases hk:i=a∨nth (nrow l i) c=0
 ·rw [if_pos hk];exact hi
 ·rw [if_neg hk]
  unfold clrR
  by_cases hl:k<(nrow l i).length
  ·rw [lessL_nth _ _ _ hl,hi,ha];omega
  ·exact nth_out (by rw [lessL_len];omega)
theorem neg_vec (p:List Int):nth (lessL (zeros p.length) p 1)=fun i => -nth p i:=funext fun i=>by
 have hz:(zeros p.length).length=p.length:=by simp [zeros]
 by_cases hi:i<p.length
 ·have h0:nth (zeros p.length) i=0:=by unfold nth zeros;simp [hi]
  rw [lessL_nth _ _ _ (by rw [hz];exact hi),h0];omega
 ·rw [nth_out (by rw [lessL_len,hz];omega),nth_out (l:=p) (by omega)];omega
theorem clrR_bd {la lb:List Int} {c M N:Nat} (ha:RowBd M la) (hb:RowBd N lb) (hz:nth lb c≠0):RowBd (M+(M+1)*N) (clrR la lb c) :=
 lessL_bd ha hb (Nat.le_trans (flr_le _ _ hz) (by have:=ha c;omega))
theorem clrR_col {la lb:List Int} {c:Nat} (hc:c<la.length) (hz:0<nth lb c):0≤nth (clrR la lb c) c∧nth (clrR la lb c) c<nth lb c:=by
 unfold clrR
 rw [lessL_nth _ _ _ hc]
 have h:=flr_res (nth la c) (nth lb c) (by omega)
 have:=h.2.1 hz
 omega
theorem grow_bd {M:Nat} (hM:2≤M):2*(3*(M*M)*(M*M))≤M ^ 9∧M+(M+1)*(2*(3*(M*M)*(M*M)))≤M ^ 9:=by
 have e9:M ^ 9=(M*M*M*M)*(M*M*M*M*M):=by simp [Nat.pow_succ,Nat.mul_assoc]
 obtain ⟨F,hF⟩:∃ F,M*M*M*M=F:=⟨_,rfl⟩
 have h8:8≤M*M*M:=Nat.mul_le_mul (Nat.mul_le_mul hM hM) hM
 have hF1:M≤F:=by
  rw [←hF]
  have:1≤M*M*M:=by omega
  have:=Nat.mul_le_mul_left M this
  rw [Nat.mul_one] at this
  calc M≤M*(M*M*M):=this
   _=M*M*M*M:=by simp [Nat.mul_assoc]
 have e1:3*(M*M)*(M*M)=3*F:=by rw [←hF];simp [Nat.mul_assoc]
 have h5:16*M≤M*M*M*M*M:=by
  have h4:16≤M*M*M*M:=Nat.mul_le_mul h8 hM
  exact Nat.mul_le_mul_right _ h4
 have h9:F*(16*M)≤M ^ 9:=by rw [e9,hF];exact Nat.mul_le_mul_left _ (by rw [←hF];exact h5)
 rw [e1]
 have h10:F*32≤F*(16*M):=Nat.mul_le_mul_left _ (by omega)
 have h11:(M+1)*(2*(3*F))≤F*(9*M):=by
  have:(M+1)*(2*(3*F))=F*(6*M+6):=by grind
  rw [this];exact Nat.mul_le_mul_left _ (by omega)
 have h12:F*(9*M)+F*(7*M)=F*(16*M):=by rw [←Nat.mul_add];congr 1;omega
 have h13:F*1≤F*(7*M):=Nat.mul_le_mul_left _ (by omega)
 exact ⟨by omega,by omega⟩
end
end Go.Proofs.YtkljafmdbajfeaaGreatDoor
