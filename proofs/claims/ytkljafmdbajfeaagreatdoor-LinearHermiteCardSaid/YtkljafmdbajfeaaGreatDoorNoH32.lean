/- A tableau while its rows are put in. -/
import Derived.Maps.AppendAt
import Derived.Test.YtkljafmdbajfeaaGreatDoorNoH30
import Derived.Test.YtkljafmdbajfeaaGreatDoorNoH31
namespace Go.Proofs.YtkljafmdbajfeaaGreatDoor
set_option linter.unusedVariables false
set_option linter.unusedSimpArgs false
section
open Go.RowKit Go.ChangeMaps
open Lp (Tab Bas)
structure OwnAt (w:World) (B:Nat) (ty:TypeId) (Q:Value→Prop) (v:Value) (k:Nat) (xs:List Value):Prop where
 own:w.ownsRow B ty 1 v k xs
 all:OwnC Q w v
theorem OwnAt.below {w w':World} {B:Nat} {ty:TypeId} {Q:Value→Prop} {v:Value} {k:Nat} {xs:List Value} (h:OwnAt w B ty Q v k xs) (hb:Below w.heap.size w w'):OwnAt w' B ty Q v k xs:=⟨own_ext h.own hb,h.all.ext h.own hb⟩
theorem OwnAt.lt {w:World} {B:Nat} {ty:TypeId} {Q:Value→Prop} {v:Value} {k:Nat} {xs:List Value} (h:OwnAt w B ty Q v k xs) {g:Nat} (hg:v.ownBlock=some g):B≤g∧g<w.heap.size:=World.ownsRow.lt h.own g hg
theorem OwnAt.other {w w':World} {B:Nat} {ty:TypeId} {Q:Value→Prop} {v:Value} {k:Nat} {xs:List Value} (h:OwnAt w B ty Q v k xs) (hb:∀ g,v.ownBlock=some g→w'.heap[g]? = w.heap[g]?):OwnAt w' B ty Q v k xs:=by
 refine ⟨⟨h.own.1,?_⟩,fun g hg=>(h.all g hg).same (hb g hg)⟩
 rcases h.own.2 with h1|⟨g,cap,cur,rfl,h1,h2,h3⟩
 ·exact .inl h1
 ·exact .inr ⟨g,cap,cur,rfl,h1,(hb g rfl).trans h2,h3⟩
theorem OwnAt.slice {w:World} {B:Nat} {ty:TypeId} {Q:Value→Prop} {v:Value} {k:Nat} {xs:List Value} (h:OwnAt w B ty Q v k xs):∃ A c,v=.slice A k c∧∀ j,j<k→∃ g,A=some ⟨g,0,none⟩∧w.cell? ⟨g,j,none⟩=xs[j]? := by
 rcases h.own.2 with ⟨rfl,h0⟩|⟨g,cap,cur,rfl,h1,h2,h3,h4,h5,h6⟩
 ·subst h0;exact ⟨none,0,rfl,fun j hj=>by omega⟩
 ·exact ⟨_,cap,rfl,fun j hj=>⟨g,rfl,by rw [h.own.cellAt j (by omega)]⟩⟩
theorem OwnAt.frozen {w:World} {B:Nat} {ty:TypeId} {Q:Value→Prop} {v:Value} {k:Nat} {xs:List Value} (h:OwnAt w B ty Q v k xs) {g:Nat} (hg:v.ownBlock=some g) (i:Nat):w.frozen? ⟨g,i,none⟩=false:=by
 rcases h.own.2 with ⟨rfl,h0⟩|⟨g',cap,cur,rfl,h1,h2,h3⟩
 ·cases hg
 ·simp [Value.ownBlock] at hg;subst hg
  simp [World.frozen?,h2]
theorem OwnAt.push {w:World} {B:Nat} {Q:Value→Prop} (t ty e:TypeId) (i:TypeInfo) (z:Value) (bytes:Nat) (ht:Tryz.prog.underlying t=some (.slice e)) (hi:Tryz.prog.info? e=some i) (hz:i.zero=some z)
 (hsize:i.size=1) (hby:i.bytes=bytes) (hzs:z.cells=#[z]) (hQz:Q z) {v:Value} {k:Nat} {xs:List Value} (h:OwnAt w B e Q v k xs)
 (a:Addr) (c:Nat) (u:Value) (hu:w.cell? a=some u) (h1:u.oneCell'=true) (hQu:Q u) (h63:k+1≤1000) (hb24:bytes≤24) (hB:B≤w.heap.size) :
 ∃ v' w',(Builtin.append_ #[t,t] ty #[v,.slice (some a) 1 c]).run Tryz.prog w=.ok v' w'∧OwnAt w' B e Q v' (k+1) (xs ++ [u])∧w.grownBy w' v.ownBlock∧(v'.ownBlock=v.ownBlock∨v'.ownBlock=some w.heap.size):=by
 have hnews:∀ j u',[u][j]? = some u'→w.cell? (a.add j)=some u':=fun j u' hj=>by
  cases j with
  | zero=>simp at hj;subst hj;exact hu
  | succ j=>simp at hj
 have hl:k+1≤maxLen:=by unfold maxLen;omega
 have hbt:(k+1)*bytes≤140737488355328:=Nat.le_trans (Nat.mul_le_mul h63 hb24) (by omega)
 obtain ⟨v',w',e1,h2,h3,h4⟩:=run_append_all (w:=w) B t ty e i z bytes ht hi hz hsize hby hzs hQz v k xs h.own h.all a 1 c [u] rfl hnews (fun u' hu'=>by simp at hu';subst hu';exact h1) (fun u' hu'=>by simp at hu';subst hu';exact hQu) (by omega) hl hbt hB
 obtain ⟨v2,w2,e2,-,-,-,h5⟩:=run_append_own_at (P:=Tryz.prog) (w:=w) B t ty e i z 1 bytes ht hi hz hsize hby (by rw [hzs];rfl) (by omega) v k xs h.own a 1 c [u] rfl hnews (fun u' hu'=>by simp at hu';subst hu';exact h1) hl hbt hB
 rw [e1] at e2
 injection e2 with e2 e3
 subst e2
 exact ⟨v',w',e1,⟨h2,h4⟩,h3,h5⟩
theorem wp_push {o:Oper} {ac:Act} {K:Act→World→Prop} {R:Exit→Act→World→Prop} {w:World} {B:Nat} {Q:Value→Prop} (s x:Operand) (t e:TypeId) (ho:o.op=.call { callee:=.builtin .append,args:=#[s,x],argTypes:=#[t,t] })
 (i:TypeInfo) (z:Value) (bytes:Nat) (ht:Tryz.prog.underlying t=some (.slice e)) (hi:Tryz.prog.info? e=some i) (hz:i.zero=some z)
 (hsize:i.size=1) (hby:i.bytes=bytes) (hzs:z.cells=#[z]) (hQz:Q z) {v:Value} {k:Nat} {xs:List Value} (h:OwnAt w B e Q v k xs) (hs:ac.eval s=v)
 (a:Addr) (c:Nat) (u:Value) (hx:ac.eval x=.slice (some a) 1 c) (hu:w.cell? a=some u) (h1:u.oneCell'=true) (hQu:Q u) (h63:k+1≤1000) (hb24:bytes≤24) (hB:B≤w.heap.size)
 (hK:∀ v' w',OwnAt w' B e Q v' (k+1) (xs ++ [u])→w.grownBy w' v.ownBlock→(v'.ownBlock=v.ownBlock∨v'.ownBlock=some w.heap.size)→K (ac.put o.dst v') w'):o.wp Tryz.prog ac w K R:=by
 obtain ⟨v',w',hr,h2,h3,h4⟩:=h.push t o.type e i z bytes ht hi hz hsize hby hzs hQz a c u hu h1 hQu h63 hb24 hB
 unfold Oper.wp execOp
 simp only [ho,resolve,invoke,builtin,Sem.run_bind,Sem.run_pure,Result.andThen_ok,List.map_toArray,List.map_cons,List.map_nil,hs,hx,hr]
 exact hK _ _ h2 h3 h4
structure PT (wx:World) (B t:Nat) (U:Nat→Prop) (n m hb:Nat) (la lb lc:List Value) (w:World) (a b c:Value) (na nb nc:Nat) (x y z:Value):Prop where
 chg:Chg U wx w
 ra:OwnAt w B 82 isSl a na (la.take na)
 rb:OwnAt w B 3 isI b nb (lb.take nb)
 rc:OwnAt w B 3 isI c nc (lc.take nc)
 ne1:∀ g,a.ownBlock=some g→b.ownBlock≠some g∧c.ownBlock≠some g
 ne2:∀ g,b.ownBlock=some g→c.ownBlock≠some g
 nt:a.ownBlock≠some t∧b.ownBlock≠some t∧c.ownBlock≠some t
 tl:t<w.heap.size
 t0:w.cell? ⟨t,0,none⟩=some (.int .i64 n)
 t1:w.cell? ⟨t,1,none⟩=some (.int .i64 m)
 t2:w.cell? ⟨t,2,none⟩=some x
 t3:w.cell? ⟨t,3,none⟩=some y
 t4:w.cell? ⟨t,4,none⟩=some z
 t5:w.cell? ⟨t,5,none⟩=some (.slice (some ⟨hb,0,none⟩) (n+2*m:Nat) (n+2*m:Nat))
 tf:∀ i,w.frozen? ⟨t,i,none⟩=false
 tn:∀ o k,w.cell? ⟨t,o,none⟩≠some (.int .u32 k)
section
variable {wx:World} {B t:Nat} {U:Nat→Prop} {n m hb:Nat} {la lb lc:List Value} {w w':World} {a b c:Value} {na nb nc:Nat} {x y z:Value}
theorem PT.below (h:PT wx B t U n m hb la lb lc w a b c na nb nc x y z) (hw:Below w.heap.size w w'):PT wx B t U n m hb la lb lc w' a b c na nb nc x y z:=by
 have hs:=hw.block t h.tl
 have hc:∀ o,w'.cell? ⟨t,o,none⟩=w.cell? ⟨t,o,none⟩:=fun o=>World.cell?_of_block (a:=⟨t,o,none⟩) hs
 exact ⟨h.chg.ext hw,h.ra.below hw,h.rb.below hw,h.rc.below hw,h.ne1,h.ne2,h.nt,Nat.lt_of_lt_of_le h.tl hw.size,(hc _).trans h.t0,(hc _).trans h.t1,(hc _).trans h.t2,(hc _).trans h.t3,(hc _).trans h.t4,(hc _).trans h.t5,
  fun i=>(World.frozen?_of_block (a:=⟨t,i,none⟩) hs).trans (h.tf i),fun o k=>by rw [hc];exact h.tn o k⟩
theorem PT.tsame (h:PT wx B t U n m hb la lb lc w a b c na nb nc x y z) (hs:w'.heap[t]? = w.heap[t]?) (hz:w.heap.size≤w'.heap.size) :
 (t<w'.heap.size∧w'.cell? ⟨t,0,none⟩=some (.int .i64 n)∧w'.cell? ⟨t,1,none⟩=some (.int .i64 m)∧w'.cell? ⟨t,2,none⟩=some x∧w'.cell? ⟨t,3,none⟩=some y)∧w'.cell? ⟨t,4,none⟩=some z∧w'.cell? ⟨t,5,none⟩=some (.slice (some ⟨hb,0,none⟩) (n+2*m:Nat) (n+2*m:Nat)) ∧
 (∀ i,w'.frozen? ⟨t,i,none⟩=false)∧∀ o k,w'.cell? ⟨t,o,none⟩≠some (.int .u32 k):=by
 have hc:∀ o,w'.cell? ⟨t,o,none⟩=w.cell? ⟨t,o,none⟩:=fun o=>World.cell?_of_block (a:=⟨t,o,none⟩) hs
 exact ⟨⟨Nat.lt_of_lt_of_le h.tl hz,(hc _).trans h.t0,(hc _).trans h.t1,(hc _).trans h.t2,(hc _).trans h.t3⟩,(hc _).trans h.t4,(hc _).trans h.t5,fun i=>(World.frozen?_of_block (a:=⟨t,i,none⟩) hs).trans (h.tf i),fun o k=>by rw [hc];exact h.tn o k⟩
theorem PT.growA {v:Value} (h:PT wx B t U n m hb la lb lc w a b c na nb nc x y z) (hv:OwnAt w' B 82 isSl v (na+1) (la.take (na+1))) (hg:w.grownBy w' a.ownBlock) (hn:v.ownBlock=a.ownBlock∨v.ownBlock=some w.heap.size) (hU:∀ g,a.ownBlock=some g→U g):PT wx B t U n m hb la lb lc w' v b c (na+1) nb nc x y z:=by
 have hob:∀ g,b.ownBlock=some g→w'.heap[g]? = w.heap[g]? := fun g hg2=>hg.block g (h.rb.lt hg2).2 (fun e=>(h.ne1 g e.symm).1 hg2)
 have hoc:∀ g,c.ownBlock=some g→w'.heap[g]? = w.heap[g]? := fun g hg2=>hg.block g (h.rc.lt hg2).2 (fun e=>(h.ne1 g e.symm).2 hg2)
 obtain ⟨⟨k0,k1,k2,k3,k4⟩,k5,k6,k7,k8⟩:=h.tsame (hg.block t h.tl (fun e=>h.nt.1 e.symm)) hg.size
 refine ⟨h.chg.trans ((Chg.ofGrown hg h.ra.all (fun n ⟨A,k,c,e⟩=>by cases e)).mono hU),hv,h.rb.other hob,h.rc.other hoc,fun g hg2=>?_,h.ne2,⟨?_,h.nt.2⟩,k0,k1,k2,k3,k4,k5,k6,k7,k8⟩
 ·rcases hn with e|e
  ·exact h.ne1 g (e ▸ hg2)
  ·rw [hg2] at e;injection e with e;subst e
   exact ⟨fun e=>by have:=(h.rb.lt e).2;omega,fun e=>by have:=(h.rc.lt e).2;omega⟩
 ·rcases hn with e|e
  ·rw [e];exact h.nt.1
  ·rw [e];intro e2;injection e2 with e2;have:=h.tl;omega
theorem PT.growB {v:Value} (h:PT wx B t U n m hb la lb lc w a b c na nb nc x y z) (hv:OwnAt w' B 3 isI v (nb+1) (lb.take (nb+1))) (hg:w.grownBy w' b.ownBlock) (hn:v.ownBlock=b.ownBlock∨v.ownBlock=some w.heap.size) (hU:∀ g,b.ownBlock=some g→U g):PT wx B t U n m hb la lb lc w' a v c na (nb+1) nc x y z:=by
 have hoa:∀ g,a.ownBlock=some g→w'.heap[g]? = w.heap[g]? := fun g hg2=>hg.block g (h.ra.lt hg2).2 (fun e=>(h.ne1 g hg2).1 e.symm)
 have hoc:∀ g,c.ownBlock=some g→w'.heap[g]? = w.heap[g]? := fun g hg2=>hg.block g (h.rc.lt hg2).2 (fun e=>h.ne2 g e.symm hg2)
 obtain ⟨⟨k0,k1,k2,k3,k4⟩,k5,k6,k7,k8⟩:=h.tsame (hg.block t h.tl (fun e=>h.nt.2.1 e.symm)) hg.size
 refine ⟨h.chg.trans ((Chg.ofGrown hg h.rb.all (fun n ⟨k,e⟩=>by cases e)).mono hU),h.ra.other hoa,hv,h.rc.other hoc,fun g hg2=>⟨?_,(h.ne1 g hg2).2⟩,fun g hg2=>?_,⟨h.nt.1,?_,h.nt.2.2⟩,k0,k1,k2,k3,k4,k5,k6,k7,k8⟩
 ·rcases hn with e|e
  ·rw [e];exact (h.ne1 g hg2).1
  ·rw [e];intro e2;injection e2 with e2;have:=(h.ra.lt hg2).2;omega
 ·rcases hn with e|e
  ·exact h.ne2 g (e ▸ hg2)
  ·rw [hg2] at e;injection e with e;subst e
   exact fun e=>by have:=(h.rc.lt e).2;omega
 ·rcases hn with e|e
  ·rw [e];exact h.nt.2.1
  ·rw [e];intro e2;injection e2 with e2;have:=h.tl;omega
theorem PT.growC {v:Value} (h:PT wx B t U n m hb la lb lc w a b c na nb nc x y z) (hv:OwnAt w' B 3 isI v (nc+1) (lc.take (nc+1))) (hg:w.grownBy w' c.ownBlock) (hn:v.ownBlock=c.ownBlock∨v.ownBlock=some w.heap.size) (hU:∀ g,c.ownBlock=some g→U g):PT wx B t U n m hb la lb lc w' a b v na nb (nc+1) x y z:=by
 have hoa:∀ g,a.ownBlock=some g→w'.heap[g]? = w.heap[g]? := fun g hg2=>hg.block g (h.ra.lt hg2).2 (fun e=>(h.ne1 g hg2).2 e.symm)
 have hob:∀ g,b.ownBlock=some g→w'.heap[g]? = w.heap[g]? := fun g hg2=>hg.block g (h.rb.lt hg2).2 (fun e=>h.ne2 g hg2 e.symm)
 obtain ⟨⟨k0,k1,k2,k3,k4⟩,k5,k6,k7,k8⟩:=h.tsame (hg.block t h.tl (fun e=>h.nt.2.2 e.symm)) hg.size
 refine ⟨h.chg.trans ((Chg.ofGrown hg h.rc.all (fun n ⟨k,e⟩=>by cases e)).mono hU),h.ra.other hoa,h.rb.other hob,hv,fun g hg2=>⟨(h.ne1 g hg2).1,?_⟩,fun g hg2=>?_,⟨h.nt.1,h.nt.2.1,?_⟩,k0,k1,k2,k3,k4,k5,k6,k7,k8⟩
 ·rcases hn with e|e
  ·rw [e];exact (h.ne1 g hg2).2
  ·rw [e];intro e2;injection e2 with e2;have:=(h.ra.lt hg2).2;omega
 ·rcases hn with e|e
  ·rw [e];exact h.ne2 g hg2
  ·rw [e];intro e2;injection e2 with e2;have:=(h.rb.lt hg2).2;omega
 ·rcases hn with e|e
  ·rw [e];exact h.nt.2.2
  ·rw [e];intro e2;injection e2 with e2;have:=h.tl;omega
theorem PT.store (h:PT wx B t U n m hb la lb lc w a b c na nb nc x y z) (f:Nat) (v:Value) (hv:∀ k,v≠.int .u32 k) (hf:f=2∨f=3∨f=4) (hU:U t):PT wx B t U n m hb la lb lc (w.setCell ⟨t,f,none⟩ v) a b c na nb nc (if f=2 then v else x) (if f=3 then v else y) (if f=4 then v else z):=by
 have hbt:But t w (w.setCell ⟨t,f,none⟩ v):=(But.refl t w).set f _
 obtain ⟨v0,h0⟩:∃ v0,w.cell? ⟨t,f,none⟩=some v0:=by
  rcases hf with rfl|rfl|rfl
  ·exact ⟨_,h.t2⟩
  ·exact ⟨_,h.t3⟩
  ·exact ⟨_,h.t4⟩
 have hsame:=World.cell?_setCell_same w ⟨t,f,none⟩ v h0
 have hoth:∀ o,o≠f→(w.setCell ⟨t,f,none⟩ v).cell? ⟨t,o,none⟩=w.cell? ⟨t,o,none⟩:=fun o ho =>
  World.cell?_setCell_other w ⟨t,f,none⟩ ⟨t,o,none⟩ _ (by intro e;injection e with _ e;exact ho e.symm)
 refine ⟨h.chg.trans (Chg.ofBut hbt h.tn hU),h.ra.other fun g hg=>hbt.block g (h.ra.lt hg).2 (fun e=>h.nt.1 (e ▸ hg)),h.rb.other fun g hg=>hbt.block g (h.rb.lt hg).2 (fun e=>h.nt.2.1 (e ▸ hg)),h.rc.other fun g hg=>hbt.block g (h.rc.lt hg).2 (fun e=>h.nt.2.2 (e ▸ hg)),
  h.ne1,h.ne2,h.nt,Nat.lt_of_lt_of_le h.tl hbt.size,(hoth 0 (by omega)).trans h.t0,(hoth 1 (by omega)).trans h.t1,?_,?_,?_,(hoth 5 (by omega)).trans h.t5,fun i=>by simp only [World.frozen?_setCell];exact h.tf i,fun o k e=>?_⟩
 ·by_cases e:f=2
  ·subst e;rw [if_pos rfl];exact hsame
  ·rw [if_neg e,hoth 2 (by omega)];exact h.t2
 ·by_cases e:f=3
  ·subst e;rw [if_pos rfl];exact hsame
  ·rw [if_neg e,hoth 3 (by omega)];exact h.t3
 ·by_cases e:f=4
  ·subst e;rw [if_pos rfl];exact hsame
  ·rw [if_neg e,hoth 4 (by omega)];exact h.t4
 ·by_cases ho:o=f
  ·subst ho;rw [hsame] at e;injection e with e;exact hv k e
  ·rw [hoth o ho] at e;exact h.tn o k e
end
end
section
open Go.RowKit Go.ChangeMaps
open Lp (Tab Bas tab0 bas0)
def falses (n:Nat):List Value:=List.replicate n (.bool false)
theorem infoBool:(Tryz.prog.info? 4).map (fun i=>(i.zero,i.size,i.bytes))=some (some (.bool false),1,1):=by kernel_rfl
theorem infoInt3:(Tryz.prog.info? 3).map (fun i=>(i.zero,i.size,i.bytes))=some (some (.int .i64 0),1,8):=by kernel_rfl
theorem infoRowQ:(Tryz.prog.info? 82).map (fun i=>(i.zero,i.size,i.bytes))=some (some (.slice none 0 0),1,24):=by kernel_rfl
theorem madeFalses (n:Nat):madeCells (Value.bool false).cells n=(falses n).toArray:=by
 unfold madeCells falses
 apply Array.ext
 ·simp [Value.cells]
 ·intro i h1 h2;simp [Value.cells,Nat.mod_one]
theorem run_makeBools (w:World) (n:Nat) (h:n≤35184372088832) :
 (Instr.makeSlice 248 (.int .i64 n) (.int .i64 n)).run Tryz.prog w=.ok (.slice (some ⟨w.heap.size,0,none⟩) n n) (w.alloc (.cells (falses n).toArray 4 (0,0))):=by
 obtain ⟨i,hi,hz,hs,hb⟩:=info_parts infoBool
 rw [run_make w 248 4 i (.bool false) Tryz.underlying248 hi hz .i64 .i64 n n (by omega) (by omega) (by rw [hb];omega) (by omega)]
 simp only [Int.toNat_natCast,hs,Nat.mul_one]
 rw [madeFalses]
def RowsX (w:World) (v:Value) (m n:Nat) (q:Tab):Prop:=∃ A c,v=.slice A m c∧∀ i,i<m→∃ a o x,A=some ⟨a,o,none⟩∧w.cell? ⟨a,o+i,none⟩=some x∧RatsX w x n (q i)
theorem RowsX.ext {w w':World} {v:Value} {m n:Nat} {q:Tab} (h:RowsX w v m n q) (hb:Below w.heap.size w w'):RowsX w' v m n q:=by
 obtain ⟨A,c,h1,h4⟩:=h
 refine ⟨A,c,h1,fun i hi=>?_⟩
 obtain ⟨a,o,x,e,hc,hz⟩:=h4 i hi
 exact ⟨a,o,x,e,(hb.cell (p:=⟨a,o+i,none⟩) (cell_lt hc)).trans hc,hz.ext hb⟩
theorem RowsX.at {w:World} {A:Option Addr} {c m n:Nat} {q:Tab} (h:RowsX w (.slice A m c) m n q) {i:Nat} (hi:i<m):∃ a o x,A=some ⟨a,o,none⟩∧w.cell? ⟨a,o+i,none⟩=some x∧RatsX w x n (q i):=by
 obtain ⟨A',c',h1,h4⟩:=h
 injection h1 with h1;subst h1;exact h4 i hi
def rowL (rb:Nat→Nat) (m N1:Nat):List Value:=(List.range m).map fun a=>.slice (some ⟨rb a,0,none⟩) N1 N1
def basL (n m:Nat):List Value:=(List.range m).map fun a=>.int .i64 ((n+m+a:Nat):Int)
def sgI (b:Nat→Rat) (a:Nat):Int:=if b a<0 then -1 else 1
def sgL (b:Nat→Rat) (m:Nat):List Value:=(List.range m).map fun a=>.int .i64 (sgI b a)
theorem take_map {α:Type} (f:Nat→α) {m i:Nat} (h:i<m):((List.range m).map f).take (i+1)=((List.range m).map f).take i ++ [f i]:=by
 rw [List.take_add_one]
 simp [h]
theorem rowL_take {rb rb':Nat→Nat} {m N1 i:Nat} (h:∀ a,a<i→rb a=rb' a):(rowL rb m N1).take i=(rowL rb' m N1).take i:=by
 unfold rowL
 rw [←List.map_take,←List.map_take]
 apply List.map_congr_left
 intro a ha
 rw [List.take_range] at ha
 have:=List.mem_range.1 ha
 rw [h a (by omega)]
structure TabI (w:World) (B t n m i:Nat) (vr vb vs:Value) (hb:Nat) (rb:Nat→Nat) (P:Nat→Nat→Nat) (A:Tab) (b:Nat→Rat):Prop where
 bt:B≤t
 nil:i=0→vb=.slice none 0 0
 pt:PT w B t (fun _=>True) n m hb (rowL rb m (n+2*m+1)) (basL n m) (sgL b m) w vr vb vs i i i vr vb vs
 num:∀ a,a<i→RowQ w B (rb a) (n+2*m+1) (n+2*m+1) (P a) (tab0 A b n m a)
 inj:∀ a c k l,a<i→c<i→k<n+2*m+1→l<n+2*m+1→P a k=P c l→a=c
 shut:∀ j,j<n+2*m→w.cell? ⟨hb,j,none⟩=some (.bool false)
 shO:B≤hb∧hb<w.heap.size∧AllC isB w hb∧∀ i,w.frozen? ⟨hb,i,none⟩=false
section
variable {w w':World} {B t n m i:Nat} {vr vb vs:Value} {hb:Nat} {rb:Nat→Nat} {P:Nat→Nat→Nat} {A:Tab} {b:Nat→Rat}
theorem PT.rebase {wx w:World} {B t:Nat} {U:Nat→Prop} {n m hb:Nat} {la lb lc:List Value} {a b c:Value} {na nb nc:Nat} {x y z:Value} (h:PT wx B t U n m hb la lb lc w a b c na nb nc x y z) (V:Nat→Prop):PT w B t V n m hb la lb lc w a b c na nb nc x y z:={ h with chg:=Chg.refl _ _ }
theorem TabI.ext (h:TabI w B t n m i vr vb vs hb rb P A b) (hw:Below w.heap.size w w'):TabI w' B t n m i vr vb vs hb rb P A b:=by
 refine ⟨h.bt,h.nil,(h.pt.below hw).rebase _,fun a ha=>(h.num a ha).ext hw,h.inj,fun j hj=>(hw.cell (p:=⟨hb,j,none⟩) (cell_lt (h.shut j hj))).trans (h.shut j hj),?_⟩
 obtain ⟨h1,h2,h3,h4⟩:=h.shO
 exact ⟨h1,Nat.lt_of_lt_of_le h2 hw.size,h3.same (hw.block _ h2),fun i=>(World.frozen?_of_block (a:=⟨hb,i,none⟩) (hw.block _ h2)).trans (h4 i)⟩
theorem TabI.tab (h:TabI w B t n m m vr vb vs hb rb P A b):∃ D,TabD w B t n m D (tab0 A b n m) (bas0 n m) (sgI b) (fun _=>false):=by
 obtain ⟨Ar,cr,rfl,hr⟩:=h.pt.ra.slice
 obtain ⟨Ab,cb,rfl,hB⟩:=h.pt.rb.slice
 obtain ⟨As,cs,rfl,hS⟩:=h.pt.rc.slice
 have e1:(rowL rb m (n+2*m+1)).take m=rowL rb m (n+2*m+1):=List.take_of_length_le (by simp [rowL])
 have e2:(basL n m).take m=basL n m:=List.take_of_length_le (by simp [basL])
 have e3:(sgL b m).take m=sgL b m:=List.take_of_length_le (by simp [sgL])
 refine ⟨⟨Ar,cr,Ab,cb,As,cs,hb,rb,P⟩,h.bt,h.pt.t0,h.pt.t1,h.pt.t2,h.pt.t3,h.pt.t4,h.pt.t5,fun i hi=>?_,h.num,h.inj,fun i hi=>?_,fun g e=>?_,fun i hi=>?_,h.shut,h.shO⟩
 ·obtain ⟨g,e,hc⟩:=hr i hi
  rw [e1] at hc
  exact ⟨g,e,hc.trans (by simp [rowL,hi])⟩
 ·obtain ⟨g,e,hc⟩:=hB i hi
  rw [e2] at hc
  exact ⟨g,e,hc.trans (by simp [basL,hi,bas0])⟩
 ·have e:Ab=some ⟨g,0,none⟩:=e
  subst e
  have hlt:=h.pt.rb.lt (g:=g) rfl
  have hm0:0<m:=by
   rcases Nat.eq_zero_or_pos m with h0|h0
   ·have:=h.nil h0;injection this with e;cases e
   ·exact h0
  exact ⟨hm0,hlt.1,hlt.2,fun e=>h.pt.nt.2.1 (by rw [←e];rfl),h.pt.rb.all g rfl,fun i=>h.pt.rb.frozen rfl i⟩
 ·obtain ⟨g,e,hc⟩:=hS i hi
  rw [e3] at hc
  refine ⟨g,e,fun e2=>?_,hc.trans (by simp [sgL,hi])⟩
  have e:As=some ⟨g,0,none⟩:=e
  have e2:Ab=some ⟨g,0,none⟩:=e2
  subst e;subst e2
  exact h.pt.ne2 g rfl rfl
end
end
section
open Go.RowKit Go.ChangeMaps
open Lp (Tab Bas tab0 bas0)
theorem RowQ.base {w:World} {B B' b n m:Nat} {P:Nat→Nat} {q:Nat→Rat} (h:RowQ w B b n m P q) (hB:B'≤B):RowQ w B' b n m P q :=
 { h with new:=Nat.le_trans hB h.new,low:=fun i hi=>Nat.le_trans hB (h.low i hi) }
def rowU (vr vb vs:Value) (t:Nat) (k:Nat):Prop:=vr.ownBlock=some k∨vb.ownBlock=some k∨vs.ownBlock=some k∨k=t
section
variable {w w':World} {B t n m i:Nat} {vr vb vs:Value} {hb:Nat} {rb:Nat→Nat} {P:Nat→Nat→Nat} {A:Tab} {b:Nat→Rat}
theorem TabI.u_old (h:TabI w B t n m i vr vb vs hb rb P A b):∀ k,rowU vr vb vs t k→B≤k∧k<w.heap.size:=by
 rintro k (e|e|e|rfl)
 ·exact h.pt.ra.lt e
 ·exact h.pt.rb.lt e
 ·exact h.pt.rc.lt e
 ·exact ⟨h.bt,h.pt.tl⟩
theorem TabI.u_cell (h:TabI w B t n m i vr vb vs hb rb P A b) {k:Nat} {x:Value} (hx:w.cell? ⟨k,0,none⟩=some x) (h1:¬ isSl x) (h2:¬ isI x):¬ rowU vr vb vs t k:=by
 rintro (e|e|e|rfl)
 ·exact h1 (h.pt.ra.all k e _ _ hx)
 ·exact h2 (h.pt.rb.all k e _ _ hx)
 ·exact h2 (h.pt.rc.all k e _ _ hx)
 ·rw [h.pt.t0] at hx;injection hx with hx;exact h2 ⟨_,hx.symm⟩
theorem TabI.u_rat (h:TabI w B t n m i vr vb vs hb rb P A b) {k:Nat} {x:Rat} (hx:RatP w k x):¬ rowU vr vb vs t k:=by
 obtain ⟨c,A',k',c2,h0,-⟩:=hx.blk.int.c
 exact h.u_cell h0 (fun ⟨A,n,c,e⟩=>by cases e) (fun ⟨n,e⟩=>by cases e)
theorem TabI.u_row (h:TabI w B t n m i vr vb vs hb rb P A b) {B' g n1:Nat} {p:Nat→Nat} {q:Nat→Rat} (hx:RowQ w B' g n1 n1 p q) (h0:0<n1):¬ rowU vr vb vs t g :=
 h.u_cell (hx.cell 0 h0) (fun ⟨A,n,c,e⟩=>by cases e) (fun ⟨n,e⟩=>by cases e)
theorem TabI.pt0 (h:TabI w B t n m i vr vb vs hb rb P A b) (rr:Nat):PT w B t (rowU vr vb vs t) n m hb (rowL (fun a=>if a=i then rr else rb a) m (n+2*m+1)) (basL n m) (sgL b m) w vr vb vs i i i vr vb vs:=by
 have h1:=h.pt.rebase (rowU vr vb vs t)
 refine { h1 with ra:=?_ }
 rw [rowL_take (rb':=rb) (fun a ha=>by rw [if_neg (by omega)])];exact h.pt.ra
theorem TabI.push (h:TabI w B t n m i vr vb vs hb rb P A b) (hi:i<m) {rr:Nat} {pr:Nat→Nat} (hr:RowQ w B rr (n+2*m+1) (n+2*m+1) pr (tab0 A b n m i)) (hne:∀ a k l,a<i→k<n+2*m+1→l<n+2*m+1→P a k≠pr l)
 {x y z:Value} (hp:PT w B t (rowU vr vb vs t) n m hb (rowL (fun a=>if a=i then rr else rb a) m (n+2*m+1)) (basL n m) (sgL b m) w' x y z (i+1) (i+1) (i+1) x y z) :
 TabI w' B t n m (i+1) x y z hb (fun a=>if a=i then rr else rb a) (fun a=>if a=i then pr else P a) A b:=by
 have hc:=hp.chg
 refine ⟨h.bt,fun e=>by omega,hp.rebase _,fun a ha=>?_,fun a c k l ha hc' hk hl e=>?_,fun j hj=>?_,?_⟩
 ·by_cases e:a=i
  ·subst e;rw [if_pos rfl,if_pos rfl];exact hr.chg hc (h.u_row hr (by omega)) (fun k hk=>h.u_rat (hr.num k hk))
  ·rw [if_neg e,if_neg e]
   have hra:=h.num a (by omega)
   exact hra.chg hc (h.u_row hra (by omega)) (fun k hk=>h.u_rat (hra.num k hk))
 ·skip
  by_cases e1:a=i<;>by_cases e2:c=i
  ·omega
  ·rw [if_pos e1,if_neg e2] at e;exact absurd e.symm (hne c l k (by omega) hl hk)
  ·rw [if_neg e1,if_pos e2] at e;exact absurd e (hne a k l (by omega) hk hl)
  ·rw [if_neg e1,if_neg e2] at e;exact h.inj a c k l (by omega) (by omega) hk hl e
 ·have hu:¬ rowU vr vb vs t hb:=h.u_cell (h.shut 0 (by omega)) (fun ⟨A,n,c,e⟩=>by cases e) (fun ⟨n,e⟩=>by cases e)
  exact (World.cell?_of_block (a:=⟨hb,j,none⟩) (hc.block hb h.shO.2.1 hu)).trans (h.shut j hj)
 ·have hu:¬ rowU vr vb vs t hb:=h.u_cell (h.shut 0 (by omega)) (fun ⟨A,n,c,e⟩=>by cases e) (fun ⟨n,e⟩=>by cases e)
  obtain ⟨h1,h2,h3,h4⟩:=h.shO
  have hs:=hc.block hb h2 hu
  exact ⟨h1,Nat.lt_of_lt_of_le h2 hc.size,h3.same hs,fun i=>(World.frozen?_of_block (a:=⟨hb,i,none⟩) hs).trans (h4 i)⟩
end
def StC (wx:World) (B t n m i hb:Nat) (la lb lc:List Value) (vr vb vs:Value):List Value→World→Prop
 | [],w=>PT wx B t (rowU vr vb vs t) n m hb la lb lc w vr vb vs i i i vr vb vs
 | [a],w=>PT wx B t (rowU vr vb vs t) n m hb la lb lc w a vb vs (i+1) i i vr vb vs
 | [a,b],w=>PT wx B t (rowU vr vb vs t) n m hb la lb lc w a b vs (i+1) (i+1) i vr vb vs
 | [a,b,c],w=>PT wx B t (rowU vr vb vs t) n m hb la lb lc w a b c (i+1) (i+1) (i+1) vr vb vs
 | [a,b,c,_],w=>PT wx B t (rowU vr vb vs t) n m hb la lb lc w a b c (i+1) (i+1) (i+1) a vb vs
 | [a,b,c,_,_],w=>PT wx B t (rowU vr vb vs t) n m hb la lb lc w a b c (i+1) (i+1) (i+1) a b vs
 | [a,b,c,_,_,_],w=>PT wx B t (rowU vr vb vs t) n m hb la lb lc w a b c (i+1) (i+1) (i+1) a b c
 | _,_=>False
section
variable {wx:World} {B t n m i hb:Nat} {la lb lc:List Value} {vr vb vs:Value}
theorem StC.below:∀ (l:List Value) (w w':World),StC wx B t n m i hb la lb lc vr vb vs l w→Below w.heap.size w w'→StC wx B t n m i hb la lb lc vr vb vs l w'
 | [],_,_,h,hb=>PT.below h hb
 | [_],_,_,h,hb=>PT.below h hb
 | [_,_],_,_,h,hb=>PT.below h hb
 | [_,_,_],_,_,h,hb=>PT.below h hb
 | [_,_,_,_],_,_,h,hb=>PT.below h hb
 | [_,_,_,_,_],_,_,h,hb=>PT.below h hb
 | [_,_,_,_,_,_],_,_,h,hb=>PT.below h hb
 | _ :: _ :: _ :: _ :: _ :: _ :: _ :: _,_,_,h,_=>h.elim
theorem StC.old:∀ {l:List Value} {w:World},StC wx B t n m i hb la lb lc vr vb vs l w→l.length≤3→w.cell? ⟨t,2,none⟩=some vr∧w.cell? ⟨t,3,none⟩=some vb∧w.cell? ⟨t,4,none⟩=some vs
 | [],_,h,_=>⟨PT.t2 h,PT.t3 h,PT.t4 h⟩
 | [_],_,h,_=>⟨PT.t2 h,PT.t3 h,PT.t4 h⟩
 | [_,_],_,h,_=>⟨PT.t2 h,PT.t3 h,PT.t4 h⟩
 | [_,_,_],_,h,_=>⟨PT.t2 h,PT.t3 h,PT.t4 h⟩
 | _ :: _ :: _ :: _ :: _,_,_,h=>by simp at h
end
theorem StC.grow {wx:World} {B t n m i hb:Nat} {la lb lc:List Value} {vr vb vs:Value}:∀ {l:List Value} {w:World},StC wx B t n m i hb la lb lc vr vb vs l w→wx.heap.size≤w.heap.size
 | [],_,h=>(PT.chg h).size
 | [_],_,h=>(PT.chg h).size
 | [_,_],_,h=>(PT.chg h).size
 | [_,_,_],_,h=>(PT.chg h).size
 | [_,_,_,_],_,h=>(PT.chg h).size
 | [_,_,_,_,_],_,h=>(PT.chg h).size
 | [_,_,_,_,_,_],_,h=>(PT.chg h).size
 | _ :: _ :: _ :: _ :: _ :: _ :: _ :: _,_,h=>h.elim
theorem rowL_push {rb:Nat→Nat} {m N1 i rr:Nat} (h:i<m):(rowL (fun a=>if a=i then rr else rb a) m N1).take (i+1)=(rowL (fun a=>if a=i then rr else rb a) m N1).take i ++ [.slice (some ⟨rr,0,none⟩) N1 N1]:=by
 unfold rowL;rw [take_map _ h]
 show _ ++ [Value.slice (some ⟨if i=i then rr else rb i,0,none⟩) N1 N1]=_
 rw [if_pos rfl]
theorem basL_push {n m i k:Nat} (h:i<m) (e:n+m+i=k):(basL n m).take (i+1)=(basL n m).take i ++ [.int .i64 (k:Int)]:=by
 subst e;unfold basL;rw [take_map _ h]
theorem sgL_push {b:Nat→Rat} {m i:Nat} (h:i<m):(sgL b m).take (i+1)=(sgL b m).take i ++ [.int .i64 (sgI b i)]:=by
 unfold sgL;rw [take_map _ h]
def FlP (wx:World) (c v:Value) (w:World):Prop:=∃ p,v=.slice (some ⟨p,0,none⟩) 1 1∧wx.heap.size≤p∧p<w.heap.size∧w.cell? ⟨p,0,none⟩=some c
def RR (wx w w':World):Prop:=w.heap.size≤w'.heap.size∧∀ p,wx.heap.size≤p→p<w.heap.size→w'.heap[p]? = w.heap[p]?
theorem FlP.rr {wx:World} {c v:Value} {w w':World} (h:FlP wx c v w) (hr:RR wx w w'):FlP wx c v w':=by
 obtain ⟨p,e,h1,h2,h3⟩:=h
 exact ⟨p,e,h1,Nat.lt_of_lt_of_le h2 hr.1,(World.cell?_of_block (a:=⟨p,0,none⟩) (hr.2 p h1 h2)).trans h3⟩
theorem FlP.below {wx:World} {c v:Value} {w w':World} (h:FlP wx c v w) (hr:Below w.heap.size w w'):FlP wx c v w':=by
 obtain ⟨p,e,h1,h2,h3⟩:=h
 exact ⟨p,e,h1,Nat.lt_of_lt_of_le h2 hr.size,(World.cell?_of_block (a:=⟨p,0,none⟩) (hr.block p h2)).trans h3⟩
theorem FlP.new {wx w:World} {c:Value} {ty:TypeId} (h:wx.heap.size≤w.heap.size):FlP wx c (.slice (some ⟨w.heap.size,0,none⟩) 1 1) (w.alloc (.cells #[c] ty (0,0))):=by
 have hb:=Blk.new w [c] ty
 exact ⟨w.heap.size,rfl,h,hb.lt,hb.cell 0 (by simp)⟩
theorem RR.grown {wx w w':World} {v:Value} (hg:w.grownBy w' v.ownBlock) (hv:∀ g,v.ownBlock=some g→g<wx.heap.size):RR wx w w' :=
 ⟨hg.size,fun p h1 h2=>hg.block p h2 (fun e=>by have:=hv p e.symm;omega)⟩
theorem RR.set {wx w:World} {t f:Nat} {v:Value} (ht:t<wx.heap.size):RR wx w (w.setCell ⟨t,f,none⟩ v):=by
 have hb:But t w (w.setCell ⟨t,f,none⟩ v):=(But.refl t w).set f _
 exact ⟨hb.size,fun p h1 h2=>hb.block p h2 (by omega)⟩
end
end Go.Proofs.YtkljafmdbajfeaaGreatDoor
