/- Package exact: Pivots; a copy of a vector. -/
import Derived.Test.YtkljafmdbajfeaaGreatDoorNoH06
import Derived.Test.YtkljafmdbajfeaaGreatDoorNoH22
namespace Go.Proofs.YtkljafmdbajfeaaGreatDoor
set_option linter.unusedVariables false
set_option linter.unusedSimpArgs false
open Go.Lib (hid)
section
open Go.RowKit Go.ChangeMaps
open Lp (Lt V Ech BdV Bd pivots)
theorem own_block {w:World} {base size n:Nat} {e:TypeId} {v:Value} {xs:List Value} (h:w.ownsRow base e size v n xs):∀ k,v.ownBlock=some k→base≤k:=by
 intro k hk
 rcases h.2 with ⟨rfl,-⟩|⟨g,cap,cur,rfl,hg,-⟩
 ·simp [Value.ownBlock] at hk
 ·simp [Value.ownBlock] at hk;omega
theorem own_size {w:World} {base size n:Nat} {e:TypeId} {v:Value} {xs:List Value} (h:w.ownsRow base e size v n xs):∃ A c,v=.slice A n c∧n≤c∧c≤maxLen:=by
 rcases h.2 with ⟨rfl,rfl⟩|⟨g,cap,cur,rfl,hg,-,h1,h2,-⟩
 ·exact ⟨none,0,rfl,Nat.le_refl _,Nat.zero_le _⟩
 ·exact ⟨_,cap,rfl,h1,h2⟩
theorem own_ints {w:World} {base n:Nat} {v:Value} {xs:List Int} (h:w.ownsRow base 3 1 v n (xs.map (Value.int .i64))):∃ A c,v=.slice A xs.length c∧xs.length≤c∧c≤maxLen∧Ints w A xs:=by
 have hl:=h.1
 simp at hl
 obtain ⟨-,h2⟩:=id h
 rcases h2 with ⟨rfl,h0⟩|⟨g,cap,cur,rfl,hg,hh,h3,h4,_⟩
 ·have:xs=[]:=List.eq_nil_of_length_eq_zero (by omega)
  subst this
  exact ⟨none,0,rfl,Nat.le_refl _,Nat.zero_le _,fun i hi=>by simp at hi⟩
 ·subst hl
  refine ⟨_,cap,rfl,h3,h4,fun i hi=>⟨g,0,rfl,?_⟩⟩
  rw [Nat.zero_add,h.cellAt i (by omega)];simp [nth,hi]
theorem own_ext {w w':World} {size n:Nat} {base:Nat} {e:TypeId} {v:Value} {xs:List Value} (h:w.ownsRow base e size v n xs) (hb:Below w.heap.size w w'):w'.ownsRow base e size v n xs:=by
 refine ⟨h.1,?_⟩
 rcases h.2 with h0|⟨g,cap,cur,rfl,hg,hh,h3⟩
 ·exact .inl h0
 ·exact .inr ⟨g,cap,cur,rfl,hg,(hb.block g (lt_of_block hh)).trans hh,h3⟩
theorem neqNilV (w:World) (a:Option Addr) (n c n' c':Nat):(binOp .neq 112 (.slice a n c) (.slice none n' c')).run Tryz.prog w=.ok (.bool (!a.isNone)) w:=run_neq_slice_nil_any w _ _ a n c n' c' Tryz.underlying112
def pivI (rows:Lt) (n:Nat):List Int:=(pivots rows n).map fun (p:Nat)=>(p:Int)
theorem pivI_len (rows:Lt) (n:Nat):(pivI rows n).length=(pivots rows n).length:=by unfold pivI;simp
theorem pivots_le (rows:Lt) (n:Nat):(pivots rows n).length≤n:=by
 unfold pivots
 refine Nat.le_trans (List.length_filter_le _ _) ?_
 rw [List.length_range];exact Nat.le_refl _
set_option maxRecDepth 100000 in
set_option maxHeartbeats 2000000 in
theorem pivots_calls (L M n:Nat) (rows:Lt) (w:World) (h:LatP w L M n rows) (hn:n≤1000) :
 Calls Tryz.prog 140 #[.pointer (some ⟨L,0,none⟩)] w fun e w'=>∃ A c,e=.returned (.slice A (pivI rows n).length c)∧(pivI rows n).length≤c∧c≤maxLen∧Ints w' A (pivI rows n)∧Below w.heap.size w w':=by
 obtain ⟨i0,hi0,hz0,hz1,hz2⟩:=info_parts infoInt
 have hc0:=h.c0
 have HL:=hid h
 have hq:=neqNilV
 clear h
 go_enter Tryz.func140,Tryz.ntmps140
 go_wp2
 go_loopw [3,9] (fun tv ti wr=>∃ (p:Nat),p≤n∧ti=.int .i64 p∧Hid (wr.ownsRow w.heap.size 3 1 tv (pivots rows p).length ((pivI rows p).map (Value.int .i64)))∧Hid (Below w.heap.size w wr)) (fun _ ti _=>n-(intOf ti).toNat)
 case atStart=>exact ⟨0,Nat.zero_le _,rfl,hid (World.ownsRow_nil _ _ _ _),hid (Below.refl _ _)⟩
 case round =>
  obtain ⟨p,hp,rfl,hown,hbe⟩:=hrel
  by_cases hlt:p<n
  ·have hn1:(p:Int)<n:=by omega
   have hl:=HL.out.ext hbe.out
   have hc1:=hl.c1
   obtain ⟨F,hM,hF⟩:=hl.map
   have hlook:=hM.look p (by omega)
   have hsucc:=Lp.pivots_succ rows p
   rcases hF p hlt with ⟨hFp,hrp⟩|⟨vb,r,hFp,hrp,hvb⟩
   ·rw [hFp,Option.getD_none] at hlook
    rw [hrp] at hsucc
    have hs:pivots rows (p+1)=pivots rows p:=by rw [hsucc];simp
    have HS:=hid hs
    clear hs hsucc hM hF hl hFp hrp
    go_wp2
    go_roundw
    case rel=>exact ⟨p+1,by omega,by go_num,by unfold pivI;rw [HS.out];exact hown,hbe⟩
    case measure=>simp [intOf];omega
   ·rw [hFp,Option.getD_some] at hlook
    obtain ⟨A,c,rfl,-,-,hat⟩:=id hvb
    obtain ⟨b,o,p1,rfl,-,-,-⟩:=hat p hlt
    rw [hrp] at hsucc
    have hs:pivots rows (p+1)=pivots rows p ++ [p]:=by rw [hsucc];simp
    have HS:=hid hs
    have hle:=pivots_le rows p
    obtain ⟨A3,c3,rfl,hc3,hc4⟩:=own_size hown.out
    have hA:Below wr.heap.size wr (wr.alloc (.cells #[.int .i64 p] 3 (0,0))):=(Below.refl _ _).alloc (Nat.le_refl _) _
    have hB:=Blk.new wr [.int .i64 p] 3
    have hown1:=own_ext hown.out hA
    have hbw:=hbe.out.size
    have HO1:=hid hown1;have HBL:=hid hB;have HA:=hid hA
    clear hs hsucc hM hF hl hFp hrp hown1 hB hA hat hvb
    go_wp2_with (at_builtin;refine wpList_append_own _ rfl _ _ 23 rfl w.heap.size 3 i0 (.int .i64 0) 1 8 Tryz.underlying23 hi0 hz0 hz1 hz2 rfl (by decide) _ _ _ rfl HO1.out ⟨wr.heap.size,0,none⟩ 1 1 [.int .i64 p] rfl ?qc1 ?qc2 ?qc3 ?qc4 ?qc5 ?qc6 ?_)
    case qc1=>rfl
    case qc2 =>
     intro j u hj
     cases j with
     | zero=>simp at hj;subst hj;exact HBL.out.cell 0 (by simp)
     | succ j=>simp at hj
    case qc3=>intro u hu;simp at hu;subst hu;rfl
    case qc4=>unfold maxLen;omega
    case qc5=>omega
    case qc6=>simp;omega
    intro v' w1 hown' hgrow hnil
    have hb1:=(hbe.out.trans (HA.out.mono hbw)).grown hgrow (by simp;omega) (own_block HO1.out)
    have hown2:w1.ownsRow w.heap.size 3 1 v' (pivots rows (p+1)).length ((pivI rows (p+1)).map (Value.int .i64)):=by
     unfold pivI at hown' ⊢
     rw [HS.out]
     simpa using hown'
    have HO2:=hid hown2;have HB1:=hid hb1
    clear hown' hgrow hnil hown2 hb1 HO1
    go_wp2
    go_roundw
    case rel=>exact ⟨p+1,by omega,by go_num,HO2,HB1⟩
    case measure=>simp [intOf];omega
  ·obtain rfl:p=n:=by omega
   have hlen:=pivI_len rows p
   rw [←hlen] at hown
   obtain ⟨A,c,rfl,h1,h2,h3⟩:=own_ints hown.out
   go_wp2
   go_ret
   exact ⟨A,c,rfl,h1,h2,h3,hbe.out⟩
end
section
open Go.RowKit Go.ChangeMaps
open Lp (Lt V Ech BdV Bd pivots lv cnt TidyAt TidyIn)
theorem OwnV.blk {w:World} {b n:Nat} {f:Nat→Int} {vs:List Value} {T:TypeId} (h:Blk w b vs T) (hp:∀ x∈vs,∃ a,x=.pointer a) (hn:n≤vs.length) (hv:∀ i,i<n→∃ p,vs[i]? = some (.pointer (some ⟨p,0,none⟩))∧BigP w p (f i)):OwnV w b n n f:=by
 refine ⟨fun o x e=>hp x (cell_in h e),h.lt,fun i=>h.free i,fun i hi=>?_,fun i hi=>?_⟩
 ·obtain ⟨a,e⟩:=hp (vs[i]) (List.getElem_mem (by omega))
  exact ⟨a,by rw [h.cell i (by omega),e]⟩
 ·obtain ⟨p,e,hz⟩:=hv i hi
  refine ⟨p,?_,hz⟩
  rw [List.getElem?_eq_getElem (by omega)] at e
  rw [h.cell i (by omega)];exact e
theorem run_copyVec (b0 n:Nat) (f:Nat→Int) (v:Value) (w:World) (hv:VecP w v n f) (h0:0<n) (hn:n≤1000) :
 ∃ c w',(Builtin.append_ #[112,112] 112 #[.slice (some ⟨b0,0,none⟩) 0 0,v]).run Tryz.prog w=.ok (.slice (some ⟨w.heap.size,0,none⟩) n c) w'∧n≤c∧c≤maxLen∧OwnV w' w.heap.size n n f∧Below w.heap.size w w':=by
 obtain ⟨i0,hi0,hz0,hz1,hz2⟩:=info_parts infoPtr
 obtain ⟨A,cv,rfl,-,-,hat⟩:=id hv
 obtain ⟨b,o,-,rfl,-,-,-⟩:=hat 0 h0
 have hcell:∀ i,i<n→∃ p,w.cell? ⟨b,o+i,none⟩=some (.pointer (some ⟨p,0,none⟩))∧BigP w p (f i):=fun i hi=>by
  obtain ⟨b',o',p,e,-,h1,h2⟩:=hat i hi
  injection e with e;injection e with e1 e2;subst e1;subst e2
  exact ⟨p,h1,h2⟩
 let news:List Value:=(List.range n).map fun i=>(w.cell? ⟨b,o+i,none⟩).getD undef
 have hl:news.length=n:=by simp [news]
 have hnth:∀ i,i<n→∃ p,news[i]? = some (.pointer (some ⟨p,0,none⟩))∧w.cell? ⟨b,o+i,none⟩=some (.pointer (some ⟨p,0,none⟩))∧BigP w p (f i):=fun i hi=>by
  obtain ⟨p,h1,h2⟩:=hcell i hi
  exact ⟨p,by simp [news,List.getElem?_map,List.getElem?_range hi,h1],h1,h2⟩
 have hnews:∀ j u,news[j]? = some u→w.cell? ((⟨b,o,none⟩:Addr).add j)=some u:=fun j u hj=>by
  have hjn:j<n:=by rw [←hl];exact (List.getElem?_eq_some_iff.1 hj).1
  obtain ⟨p,h1,h2,-⟩:=hnth j hjn
  rw [h1] at hj;rw [←hj,Addr.add_lit];exact h2
 have hr:=run_append_grow (P:=Tryz.prog) w 112 112 150 i0 (.pointer none) Tryz.underlying112 hi0 hz0 ⟨b0,0,none⟩ 0 0 [] (by simp) (by simp) ⟨b,o,none⟩ n cv news (by rw [hz1,Nat.mul_one];exact hl) hnews (by omega) (by omega) (by
  rw [Nat.zero_add,nextslicecap_zero h0,hz2];omega)
 simp only [Nat.zero_add] at hr
 refine ⟨_,_,hr,grownCap_ge w n 0 _,grownCap_le_maxLen w n 0 _ (by unfold maxLen;omega),?_,((Below.refl w.heap.size w).drew).alloc (Nat.le_refl _) _⟩
 have hbl:Blk (w.drew.alloc (.cells (#[] ++ news.toArray ++ Builtin.zeroCells (Value.pointer none).cells (grownCap w n 0 150-n)) 150)) w.heap.size (news ++ (Builtin.zeroCells (Value.pointer none).cells (grownCap w n 0 150-n)).toList) 150:=by
  have h1:=Blk.new w.drew (news ++ (Builtin.zeroCells (Value.pointer none).cells (grownCap w n 0 150-n)).toList) 150
  have e:(news ++ (Builtin.zeroCells (Value.pointer none).cells (grownCap w n 0 150-n)).toList).toArray=#[] ++ news.toArray ++ Builtin.zeroCells (Value.pointer none).cells (grownCap w n 0 150-n):=by
   apply Array.ext'
   simp
  rw [e] at h1
  exact h1
 refine OwnV.blk hbl (fun x hx=>?_) (by simp [hl]) (fun i hi=>?_)
 ·rcases List.mem_append.1 hx with h1|h1
  ·obtain ⟨i,hi,rfl⟩:=List.mem_map.1 h1
   obtain ⟨p,h2,-⟩:=hcell i (List.mem_range.1 hi)
   exact ⟨some ⟨p,0,none⟩,by rw [h2];rfl⟩
  ·rw [Array.mem_toList_iff,Builtin.zeroCells,Array.mem_map] at h1
   obtain ⟨a,-,rfl⟩:=h1
   exact ⟨none,by simp [Value.cells,Nat.mod_one]⟩
 ·obtain ⟨p,h1,-,h2⟩:=hnth i hi
  refine ⟨p,?_,h2.ext (((Below.refl w.heap.size w).drew).alloc (Nat.le_refl _) _)⟩
  rw [List.getElem?_append_left (by omega)];exact h1
theorem wp_copy {o:Oper} {a:Act} {K:Act→World→Prop} {Q:Exit→Act→World→Prop} {w:World} (s x:Operand) (ho:o.op=.call { callee:=.builtin .append,args:=#[s,x],argTypes:=#[112,112] }) (hty:o.type=112)
 (b n:Nat) (f:Nat→Int) (v:Value) (hs:a.eval s=.slice (some ⟨b,0,none⟩) 0 0) (hx:a.eval x=v) (hv:VecP w v n f) (h0:0<n) (hn:n≤1000)
 (h:∀ c w',n≤c→c≤maxLen→OwnV w' w.heap.size n n f→Below w.heap.size w w'→K (a.put o.dst (.slice (some ⟨w.heap.size,0,none⟩) n c)) w'):o.wp Tryz.prog a w K Q:=by
 obtain ⟨c,w',hr,h2,h3,h4,h5⟩:=run_copyVec b n f v w hv h0 hn
 unfold Oper.wp execOp
 simp only [ho,resolve,invoke,builtin,Sem.run_bind,Sem.run_pure,Result.andThen_ok,List.map_toArray,List.map_cons,List.map_nil,hs,hx,hty,hr]
 exact h c w' h2 h3 h4 h5
theorem wpList_copy {ops:Array Oper} {rest:List Oper} {o:Oper} {a:Act} {Q:Exit→Act→World→Prop} {w:World} (hgd:o.guard=none) (s x:Operand) (ho:o.op=.call { callee:=.builtin .append,args:=#[s,x],argTypes:=#[112,112] }) (hty:o.type=112)
 (b n:Nat) (f:Nat→Int) (v:Value) (hs:a.eval s=.slice (some ⟨b,0,none⟩) 0 0) (hx:a.eval x=v) (hv:VecP w v n f) (h0:0<n) (hn:n≤1000)
 (h:∀ c w',n≤c→c≤maxLen→OwnV w' w.heap.size n n f→Below w.heap.size w w'→wpList Tryz.prog ops Q rest (a.put o.dst (.slice (some ⟨w.heap.size,0,none⟩) n c)) w'):wpList Tryz.prog ops Q (o :: rest) a w :=
 wpList_plain hgd fun _ hK=>wp_copy s x ho hty b n f v hs hx hv h0 hn fun c w' h2 h3 h4 h5=>hK _ _ (h c w' h2 h3 h4 h5)
theorem LatP.put2 {w w':World} {L M n p:Nat} {rows:Lt} {F:Nat→Option Value} {v:Value} {r:V} (h:LatP w L M n rows) (hM:MapIs w M F) (hF:∀ p,p<n→(F p=none∧rows p=none)∨∃ v r,F p=some v∧rows p=some r∧VecP w v n r)
 (hv:VecP w' v n r) (hb:But M w w') (hM':MapIs w' M (putF F p v)):LatP w' L M n (Lp.put rows p r):=by
 have hne:L≠M:=by rintro rfl;have:=h.c0;rw [hM.cells] at this;cases this
 have hc:∀ o x,w.cell? ⟨L,o,none⟩=some x→w'.cell? ⟨L,o,none⟩=some x:=fun o x e=>(World.cell?_of_block (a:=⟨L,o,none⟩) (hb.block L (cell_lt e) hne)).trans e
 refine ⟨hc _ _ h.c0,hc _ _ h.c1,_,hM',fun q hq=>?_⟩
 by_cases e:q=p
 ·subst e
  exact .inr ⟨v,r,by unfold putF;rw [if_pos rfl],Lp.put_same _ _ _,hv⟩
 ·rcases hF q hq with ⟨h3,h4⟩|⟨u,s,h3,h4,h5⟩
  ·exact .inl ⟨by unfold putF;rw [if_neg e];exact h3,by rw [Lp.put_other _ _ _ e];exact h4⟩
  ·exact .inr ⟨u,s,by unfold putF;rw [if_neg e];exact h3,by rw [Lp.put_other _ _ _ e];exact h4,h5.butM hM hb⟩
theorem OwnV.butM {w w':World} {b n m M:Nat} {F:Nat→Option Value} {f:Nat→Int} (h:OwnV w b n m f) (h0:0<n) (hM:MapIs w M F) (hb:But M w w'):OwnV w' b n m f:=by
 have hne:b≠M:=by
  rintro rfl
  obtain ⟨a,e⟩:=h.ex 0 h0
  rw [hM.cells] at e;cases e
 have hs:=hb.block b h.lt hne
 have hc:∀ o,w'.cell? ⟨b,o,none⟩=w.cell? ⟨b,o,none⟩:=fun o=>World.cell?_of_block (a:=⟨b,o,none⟩) hs
 refine ⟨h.ptrs.same hs,Nat.lt_of_lt_of_le h.lt hb.size,fun i=>(World.frozen?_of_block (a:=⟨b,i,none⟩) hs).trans (h.fr i),fun i hi=>?_,fun i hi=>?_⟩
 ·rw [hc];exact h.ex i hi
 ·obtain ⟨q,h1,h2⟩:=h.num i hi
  exact ⟨q,by rw [hc];exact h1,h2.butP hM.ptrs hb⟩
theorem But.skip {M g:Nat} {w w4 w5:World} (h:But M w w4) (k:But g w4 w5) (hg:w.heap.size≤g):But M w w5 :=
 ⟨k.os.trans h.os,k.tape.trans h.tape,k.output.trans h.output,Nat.le_trans h.size k.size,fun i hi hne=>(k.block i (Nat.lt_of_lt_of_le hi h.size) (by omega)).trans (h.block i hi hne)⟩
theorem Ints.butM {w w':World} {A:Option Addr} {xs:List Int} {M:Nat} {F:Nat→Option Value} (h:Ints w A xs) (hM:MapIs w M F) (hb:But M w w'):Ints w' A xs:=fun i hi=>by
 obtain ⟨b,o,e,hc⟩:=h i hi
 have hne:b≠M:=by rintro rfl;rw [hM.cells] at hc;cases hc
 exact ⟨b,o,e,(World.cell?_of_block (a:=⟨b,o+i,none⟩) (hb.block b (cell_lt hc) hne)).trans hc⟩
def NoBlk (w:World) (p:Nat):Prop:=False
theorem calm_empty:Calm NoBlk fun v w=>∃ b,v=.slice (some ⟨b,0,none⟩) 0 0:=⟨fun v w w' h hb=>h,fun v w w' p h hp hb=>h⟩
theorem calm_own (B n:Nat) (f:Nat→Int):Calm NoBlk fun v w=>∃ g c,v=.slice (some ⟨g,0,none⟩) n c∧n≤c∧c≤maxLen∧B≤g∧OwnV w g n n f :=
 ⟨fun v w w' ⟨g,c,h1,h2,h3,h4,h5⟩ hb=>⟨g,c,h1,h2,h3,h4,h5.ext hb⟩,fun v w w' p h hp hb=>hp.elim⟩
theorem pivI_nth {rows:Lt} {n i:Nat} (hi:i<(pivots rows n).length):nth (pivI rows n) i=(((pivots rows n)[i]:Nat):Int):=by
 have h:i<(pivI rows n).length:=by rw [pivI_len];exact hi
 rw [nth_lt h];simp [pivI]
theorem quo_bound {a b x:Int} {B:Nat} (hb:0<b) (hB:0<B) (ha:a.natAbs≤B) (hx:x.natAbs≤B):(-(a / b)*x).natAbs≤3*(B*B):=by
 have h1:(-(a / b)).natAbs≤B:=by
  have h3:(a / b).natAbs≤a.natAbs:=by
   rcases Int.lt_or_le a 0 with h4|h4
   ·have h5:a≤a / b:=Int.le_ediv_of_mul_le hb (by
     have:a*b≤a*1:=Int.mul_le_mul_of_nonpos_left (by omega) (by omega)
     omega)
    have h6:a / b<0:=Int.ediv_neg_of_neg_of_pos h4 hb
    omega
   ·have h5:a / b≤a:=Int.ediv_le_self b h4
    have h6:0≤a / b:=Int.ediv_nonneg h4 (by omega)
    omega
  omega
 have h2:=Lp.mul_abs h1 hx
 omega
set_option maxRecDepth 100000 in
set_option maxHeartbeats 4000000 in
theorem tidy_calls (L M n X:Nat) (rows:Lt) (w:World) (h:LatP w L M n rows) (h0:0<n) (hn:n≤1000) (hE:Ech n rows) (hL:Bd X rows) (hX:0<X) (hw:∀ z:Int,z.natAbs≤lv X (cnt rows n)→Wide z) :
 Calls Tryz.prog 139 #[.pointer (some ⟨L,0,none⟩)] w fun e w'=>e=.returned (.tuple #[])∧∃ rows',LatP w' L M n rows'∧Ech n rows'∧Lp.Red rows'∧(∀ q,(rows' q).isSome=(rows q).isSome)∧(∀ x,Lp.Gen (Lp.From rows' 0) x↔Lp.Gen (Lp.From rows 0) x)∧Bd (lv X (cnt rows n)) rows'∧But M w w':=by
 have hps:=pivots_calls L M n rows w h hn
 have HPS:=hid hps
 have HL:=hid h
 have HE:=hid hE;have HLX:=hid hL
 clear hps h hE hL
 go_enter Tryz.func139,Tryz.ntmps139
 go_wp2_with fail
 refine HPS.out.mono ?_;rintro e w1 ⟨A,cp,rfl,hcp1,hcp2,hints,hb1⟩
 have HB1:=hid hb1;have HI:=hid hints
 have hlen:(pivI rows n).length=(pivots rows n).length:=pivI_len rows n
 have hle:=pivots_le rows n
 have HT0:=hid (TidyAt.start HE.out HLX.out)
 clear hb1 hints HPS
 generalize hN:(pivI rows n).length=N at *
 go_wp2_with fail
 go_loopw [11] (fun ti wr=>∃ (i P:Nat) (rows1:Lt),i≤N∧P≤n∧ti=.int .i64 i∧Hid (LatP wr L M n rows1)∧Hid (TidyAt n X rows rows1 P)∧Hid (∀ j,∀ hj:j<(pivots rows n).length,(j<i→(pivots rows n)[j]<P)∧(i≤j→P≤(pivots rows n)[j]))∧Hid (Ints wr A (pivI rows n))∧Hid (But M w wr)) (fun ti _=>N-(intOf ti).toNat)
 case atStart=>exact ⟨0,0,rows,Nat.zero_le _,Nat.zero_le _,rfl,hid (HL.out.ext HB1.out),HT0,hid (fun j hj=>⟨fun h=>by omega,fun _=>Nat.zero_le _⟩),HI,hid ((But.refl M w).ext HB1.out)⟩
 case round =>
  obtain ⟨i,P,rows1,hi,hPn,rfl,hl,hT,hPp,hIn,hbe⟩:=hrel
  by_cases hlt:i<N
  ·have hn1:(i:Int)<N:=by omega
   have hii:i<(pivots rows n).length:=by omega
   obtain ⟨bA,oA,rfl,hcA⟩:=hIn.out i (by omega)
   rw [pivI_nth hii] at hcA
   have hmem:=Lp.mem_pivots.1 (List.getElem_mem hii)
   obtain ⟨p,hpe⟩:∃ p,(pivots rows n)[i]=p:=⟨_,rfl⟩
   rw [hpe] at hcA hmem
   obtain ⟨hpn,hps⟩:=hmem
   obtain ⟨r,hrp⟩:∃ r,rows1 p=some r:=by
    have:=hT.out.same p
    rw [hps] at this
    exact Option.isSome_iff_exists.1 this
   have hPp1:=hPp.out i hii
   have hgap:∀ q,P≤q→q<p→rows1 q=none:=fun q h1 h2=>by
    have h3:rows q=none:=Lp.pivots_gap hii (P:=P) (fun j hj hj'=>(hPp.out j hj').1 hj) h1 (by rw [hpe];exact h2)
    have h4:=hT.out.same q
    rw [h3] at h4
    cases h5:rows1 q with
    | none=>rfl
    | some x=>rw [h5] at h4;cases h4
   have HIN:=hid (hT.out.into hX (by have:=hPp1.2 (Nat.le_refl _);omega) hgap)
   have hcp:cp≤maxLen:=hcp2
   have hbt:=hbe.out
   clear hgap hPp1
   go_wp2_with fail
   go_loopw [20] (fun ti wr2=>∃ (k Q:Nat) (rows2:Lt),k≤i∧ti=.int .i64 k∧Hid (LatP wr2 L M n rows2)∧Hid (TidyIn n X rows rows2 p Q)∧Hid (∀ j,∀ hj:j<(pivots rows n).length,(j<k→(pivots rows n)[j]<Q)∧(k≤j→j<i→Q≤(pivots rows n)[j]))∧Hid (Ints wr2 (some ⟨bA,oA,none⟩) (pivI rows n))∧Hid (But M w wr2)) (fun ti _=>i-(intOf ti).toNat)
   case atStart=>exact ⟨0,0,rows1,Nat.zero_le _,rfl,hl,HIN,hid (fun j hj=>⟨fun h=>by omega,fun _ _=>Nat.zero_le _⟩),hIn,hbe⟩
   case round =>
    obtain ⟨k,Q,rows2,hk,rfl,hl2,hT2,hQq,hIn2,hbe2⟩:=hrel
    by_cases hlt2:k<i
    ·have hn2:(k:Int)<i:=by omega
     have hkk:k<(pivots rows n).length:=by omega
     obtain ⟨bB,oB,eB,hcB⟩:=hIn2.out k (by omega)
     injection eB with eB;injection eB with eB1 eB2;subst eB1;subst eB2
     rw [pivI_nth hkk] at hcB
     have hmem2:=Lp.mem_pivots.1 (List.getElem_mem hkk)
     have hqp:=Lp.pivots_lt hkk hii hlt2
     obtain ⟨q,hqe⟩:∃ q,(pivots rows n)[k]=q:=⟨_,rfl⟩
     rw [hqe] at hcB hmem2 hqp
     rw [hpe] at hqp
     obtain ⟨hqn,hqs⟩:=hmem2
     have hsome:∀ a,(rows a).isSome=true→∃ x,rows2 a=some x:=fun a ha=>by
      have:=hT2.out.same a
      rw [ha] at this
      exact Option.isSome_iff_exists.1 this
     obtain ⟨s,hsq⟩:=hsome q hqs
     obtain ⟨r2,hrp2⟩:=hsome p hps
     have hQ2:=(hQq.out k hkk).2 (Nat.le_refl _) hlt2
     rw [hqe] at hQ2
     have hstep:=hT2.out.step hX HLX.out hQ2 (fun a h1 h2=>by
      have h3:rows a=none:=Lp.pivots_gap hkk (P:=Q) (fun j hj hj'=>(hQq.out j hj').1 hj) h1 (by rw [hqe];exact h2)
      have h4:=hT2.out.same a
      rw [h3] at h4
      cases h5:rows2 a with
      | none=>rfl
      | some x=>rw [h5] at h4;cases h4) hsq hrp2 hqp
     have hrpos:=hT2.out.ech.pos p r2 hrp2
     have hcp1:cnt rows p+1≤cnt rows n:=by
      have h1:cnt rows (p+1)=cnt rows p+1:=by simp only [cnt];rw [hps];rfl
      have h2:cnt rows (p+1)≤cnt rows n:=Lp.cnt_mono _ (by omega)
      omega
     have hbs:BdV (lv X (cnt rows p)) s:=hT2.out.rest q s hQ2 hsq
     have hbr:BdV (lv X (cnt rows p)) r2:=by
      have:=hT2.out.keep p (Nat.le_refl _)
      rw [hrp2] at this
      exact (HLX.out p r2 this.symm).mono (Lp.lv_mono hX (Nat.zero_le _))
     have hlvs:lv X (cnt rows p)≤lv X (cnt rows n):=Lp.lv_mono hX (by omega)
     have wf:∀ i,i<n→Wide (s i):=fun i _=>hw _ (Nat.le_trans (hbs i) hlvs)
     have wrr:∀ i,i<n→Wide (r2 i):=fun i _=>hw _ (Nat.le_trans (hbr i) hlvs)
     have wk:∀ i,i<n→Wide (-(s p / r2 p)*r2 i):=fun i _=>wide_lv hw hX hcp1 (by
      have:=quo_bound hrpos (Lp.lv_pos hX (cnt rows p)) (hbs p) (hbr i)
      simp only [lv];exact this)
     obtain ⟨F,hM,hF⟩:=hl2.out.map
     have hFq:∃ v,F q=some v∧VecP wr v n s:=by
      rcases hF q hqn with ⟨-,h2⟩|⟨v,x,h1,h2,h3⟩
      ·rw [hsq] at h2;cases h2
      ·rw [hsq] at h2;injection h2 with h2;subst h2;exact ⟨v,h1,h3⟩
     have hFp:∃ v,F p=some v∧VecP wr v n r2:=by
      rcases hF p hpn with ⟨-,h2⟩|⟨v,x,h1,h2,h3⟩
      ·rw [hrp2] at h2;cases h2
      ·rw [hrp2] at h2;injection h2 with h2;subst h2;exact ⟨v,h1,h3⟩
     obtain ⟨vq,hFq1,hvq⟩:=hFq
     obtain ⟨vp,hFp1,hvp⟩:=hFp
     obtain ⟨Aq,cq,rfl,hcq,-,hatq⟩:=id hvq
     obtain ⟨bq,oq,-,rfl,-,-,-⟩:=hatq 0 h0
     have hc1:=hl2.out.c1
     have HM:=hid hM;have HF:=hid hF;have HFQ:=hid hFq1;have HFP:=hid hFp1;have HVQ:=hid hvq;have HVP:=hid hvp
     have HSTEP:=hid hstep
     have hsz2:=hbe2.out.size
     clear hM hF hFq1 hFp1 hvq hvp hstep hsome hatq hcA hQ2 hsq hrp2 hbs hbr hlvs
     go_wp2_with fail
     refine wp_region_kc (w0:=wr) 13 [24,25,26,27,28,29,30,31,32,33,34,35,36]
      [.c (.pointer (some ⟨L,0,none⟩)),.c (.pointer (some ⟨L,0,none⟩)),.c (.pointer (some ⟨L,1,none⟩)),.c (.map (some M)),.c (.int .i64 q),.l none (leaf1 · (fun v w=>∃ b,v=.slice (some ⟨b,0,none⟩) 0 0)),.c (.pointer (some ⟨L,0,none⟩)),.c (.pointer (some ⟨L,0,none⟩)),.c (.pointer (some ⟨L,1,none⟩)),.c (.map (some M)),.c (.int .i64 q),.c (.slice (some ⟨bq,oq,none⟩) n cq),.l none (leaf1 · (fun v w=>∃ g c,v=.slice (some ⟨g,0,none⟩) n c∧n≤c∧c≤maxLen∧wr.heap.size≤g∧OwnV w g n n s))]
      [] NoBlk (by kernel_rfl) (by kernel_rfl) (by kernel_rfl) rfl (F:=?cFr7) ?r7c1 ?r7c2 ?r7c3 ?r7c4
     case r7c1 =>
      intro x
      simp only [fullC,Act.put,List.setIfInBounds_toArray,List.set_cons_zero,List.set_cons_succ]
      rfl
     case r7c2 =>
      exact ⟨keeps_calm (calm_empty) _ _ _ _ _,keeps_calm (calm_own _ _ _) _ _ _ _ _,trivial⟩
     case r7c3 =>
      refine ⟨?_,?_,?_,?_,?_,?_,?_,?_,?_,?_,?_,?_,?_,trivial⟩
      all_goals
       intro xx wq HE hd K hK
       have hc:=(bcell HE).1
       have hc1':=(hc _ _ (cell_lt hc1)).trans hc1
       try have g5:=hd 5 _ (by decide) rfl
       try have g12:=hd 12 _ (by decide) rfl
       have HE:=hid HE
       have HC:=hid hc
       clear hd hc
       have hlk:=(HM.out.ext HE.out).look q (by omega)
       rw [HFQ.out,Option.getD_some] at hlk
       try (obtain ⟨b29,h29⟩:=g5;rw [if_pos (by rfl)];refine wp_copy (.tmp 29) (.tmp 35) rfl rfl b29 n s _ (by exact h29) rfl (HVQ.out.ext HE.out) h0 hn fun c w3 hc2 hc3 hO3 hb3=>?_;exact hK _ _ _ (mv_plain hb3 ⟨_,c,rfl,hc2,hc3,HE.out.size,hO3⟩ rfl) rfl)
       all_goals go_simp
       try (refine hK _ _ _ (mv_const _ rfl) ?_;dsimp only [Act.put];first|done|rfl|(simp [*];done))
      ·exact hK _ _ _ (mv_plain ((Below.refl _ _).alloc (Nat.le_refl _) _) ⟨_,rfl⟩ rfl) (by first|(dsimp only [Act.put];done)|(dsimp only [Act.put];first|rfl|(simp [*];done)|(simp [*,ptr];done)))
     case r7c4 =>
      intro xx wz hE hG hA
      have g5:=hG 5 _ rfl
      have g12:=hG 12 _ rfl
      obtain ⟨g,c,h36,hc5,hc6,hg,hOv⟩:=g12
      have hMz:=HM.out.ext hE
      obtain ⟨w4,hu1,hu2,hu3⟩:=hMz.update q (by omega) (.slice (some ⟨g,0,none⟩) n c)
      have hO4:=hOv.butM h0 hMz hu3
      have hv4:VecX (·≠g) w4 vp n r2:=((HVP.out.low.ext hE).mono fun b hb=>by omega).butM hMz hu3
      have hl4:=(hl2.out.ext hE).put2 (v:=.slice (some ⟨g,0,none⟩) n c) (r:=s) hMz (fun a ha=>(HF.out a ha).imp id fun ⟨v,r,h1,h2,h3⟩=>⟨v,r,h1,h2,h3.ext hE⟩) (hO4.vec hc5 hc6).vec hu3 hu2
      have hc4:=hl4.c1
      have hlook4:=hu2.look q (by omega)
      rw [show putF F q (.slice (some ⟨g,0,none⟩) n c) q=some (.slice (some ⟨g,0,none⟩) n c) from by unfold putF;rw [if_pos rfl],Option.getD_some] at hlook4
      have hFp4:putF F q (.slice (some ⟨g,0,none⟩) n c) p=some vp:=by unfold putF;rw [if_neg (by omega)];exact HFP.out
      have HD:=hid (down_calls L M g c n p _ s r2 vp w4 hc4 hu2 hFp4 hO4 hv4 hn hpn hrpos wf wrr wk)
      have HU2:=hid hu2;have HU3:=hid hu3;have HMz:=hid hMz;have HEz:=hid hE
      clear hG hA hE g5 hOv hu2 hu3 hO4 hv4 hl4 hFp4 hMz
      refine tail_one (i:=13) (by kernel_rfl) rfl ?_
      intro K hK
      go_simp
      refine hK _ _ ?_
      clear hK hu1
      refine wpAny_done (by kernel_rfl) ?_ _
      go_wp2_with fail
      refine HD.out.mono ?_;rintro e w5 ⟨rfl,hO5,hb5⟩
      have hMne:M≠g:=by have:=HM.out.lt;omega
      have hM5:=HU2.out.other hb5 hMne
      have hb25:But M wr w5:=(((But.refl M wr).ext HEz.out).trans HU3.out).skip hb5 hg
      have hl5:=hl2.out.put2 (v:=.slice (some ⟨g,0,none⟩) n c) (r:=fun i=>s i + -(s p / r2 p)*r2 i) HM.out HF.out (hO5.vec hc5 hc6).vec hb25 hM5
      have hI5:=hIn2.out.butM HM.out hb25
      have hord:∀ j,∀ hj:j<(pivots rows n).length,(j<k+1→(pivots rows n)[j]<q+1)∧(k+1≤j→j<i→q+1≤(pivots rows n)[j]):=fun j hj=>by
       refine ⟨fun h=>?_,fun h _=>?_⟩
       ·rcases Nat.lt_or_ge j k with h1|h1
        ·have:=Lp.pivots_lt hj hkk h1;omega
        ·have:j=k:=by omega
         subst this;omega
       ·have:=Lp.pivots_lt hkk hj (by omega);omega
      have HL5:=hid hl5;have HI5:=hid hI5;have HORD:=hid hord;have HB5:=hid (hbe2.out.trans hb25)
      clear hO5 hb5 hM5 hb25 hl5 hI5 hord HD
      go_wp2
      go_roundw
      case rel=>exact ⟨k+1,q+1,_,by omega,by go_num,HL5,HSTEP,HORD,HI5,HB5⟩
      case measure=>simp [intOf];omega
    ·obtain rfl:k=i:=by omega
     obtain ⟨r2,hrp2⟩:∃ r,rows2 p=some r:=by
      have:=hT2.out.same p
      rw [hps] at this
      exact Option.isSome_iff_exists.1 this
     have hdn:=hT2.out.done hrp2 (fun a h1 h2=>by
      have h3:rows a=none:=Lp.pivots_gap hii (P:=Q) (fun j hj hj'=>(hQq.out j hj').1 hj) h1 (by rw [hpe];exact h2)
      have h4:=hT2.out.same a
      rw [h3] at h4
      cases h5:rows2 a with
      | none=>rfl
      | some x=>rw [h5] at h4;cases h4)
     have HDN:=hid hdn
     have hsucc:∀ j,∀ hj:j<(pivots rows n).length,(j<k+1→(pivots rows n)[j]<p+1)∧(k+1≤j→p+1≤(pivots rows n)[j]):=fun j hj=>by
      refine ⟨fun h=>?_,fun h=>?_⟩
      ·rcases Nat.lt_or_ge j k with h1|h1
       ·have:=Lp.pivots_lt hj hii h1;omega
       ·have:j=k:=by omega
        subst this;omega
      ·have:=Lp.pivots_lt hii hj (by omega);omega
     have HSC:=hid hsucc
     clear hdn hsucc
     go_wp2
     go_roundw
     case rel=>exact ⟨k+1,p+1,rows2,by omega,by omega,by go_num,hl2,HDN,HSC,hIn2,hbe2⟩
     case measure=>simp [intOf];omega
  ·obtain rfl:i=N:=by omega
   go_wp2
   go_end0
   have hT:=hT.out
   have hpv:pivots rows1 n=pivots rows n:=Lp.pivots_congr hT.same
   refine ⟨rfl,rows1,hl.out,hT.ech,hT.all (fun q hq=>?_),hT.same,hT.gen,?_,hbe.out⟩
   ·refine Lp.pivots_end (n:=n) (P:=P) hT.ech.lt (fun j hj=>?_) hq
    have hj':j<(pivots rows n).length:=by rw [hpv] at hj;exact hj
    have:=(hPp.out j hj').1 (by omega)
    simp only [hpv];exact this
   ·exact hT.bd.mono (Lp.lv_mono hX (Lp.cnt_mono _ hPn))
end
end Go.Proofs.YtkljafmdbajfeaaGreatDoor
