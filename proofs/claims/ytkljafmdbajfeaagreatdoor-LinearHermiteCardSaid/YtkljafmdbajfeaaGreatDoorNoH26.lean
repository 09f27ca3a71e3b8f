/- Package exact: a simplex tableau in memory. -/
import Derived.Test.YtkljafmdbajfeaaGreatDoorNoH09
import Derived.Test.YtkljafmdbajfeaaGreatDoorNoH25
namespace Go.Proofs.YtkljafmdbajfeaaGreatDoor
set_option linter.unusedVariables false
set_option linter.unusedSimpArgs false
open Go.Lib (hid)
section
open Go.RowKit
open Lp (Tab Bas)
def NoW (w:World) (p:Nat):Prop:=∀ o n,w.cell? ⟨p,o,none⟩≠some (.int .u32 n)
theorem WSl.butW {w w':World} {v:Value} {n p:Nat} (h:WSl w v n) (hp:NoW w p) (hb:But p w w'):WSl w' v n:=by
 obtain ⟨A,c,h1,h2,h3,h4⟩:=h
 refine ⟨A,c,h1,h2,h3,fun i hi=>?_⟩
 obtain ⟨b,off,e,hc⟩:=h4 i hi
 refine ⟨b,off,e,?_⟩
 have hne:b≠p:=by rintro rfl;exact hp _ _ hc
 rw [World.cell?_of_block (w:=w) (hb.block b (cell_lt hc) hne)];exact hc
theorem BigP.butW {w w':World} {p q:Nat} {z:Int} (h:BigP w q z) (hp:NoW w p) (hb:But p w w') (hne:q≠p):BigP w' q z:=by
 have hq:=hb.block q h.lt hne
 obtain ⟨h0,v,h1,h2,h3⟩:=h
 exact ⟨h0.same hq,v,(World.cell?_of_block (a:=⟨q,0,none⟩) hq).trans h1,(World.cell?_of_block (a:=⟨q,1,none⟩) hq).trans h2,h3.butW hp hb⟩
theorem RatP.butW {w w':World} {p q:Nat} {x:Rat} (h:RatP w q x) (hp:NoW w p) (hb:But p w w') (hne:q≠p):RatP w' q x:=by
 obtain ⟨h1,h2,v,h3,h4⟩:=h
 have hs:=hb.block q h2.lt hne
 refine ⟨h1.same hs,h2.butW hp hb hne,v,(World.cell?_of_block (a:=⟨q,2,none⟩) hs).trans h3,?_⟩
 rcases h4 with h|⟨h5,h⟩
 ·exact .inl (h.butW hp hb)
 ·exact .inr ⟨h5,h.butW hp hb⟩
theorem RowQ.butW {w w':World} {B b n m p:Nat} {P:Nat→Nat} {q:Nat→Rat} (h:RowQ w B b n m P q) (hp:NoW w p) (hb:But p w w') (hbp:b≠p) (hne:∀ i,i<m→P i≠p):RowQ w' B b n m P q:=by
 have hs:=hb.block b h.lt hbp
 have hc:∀ o,w'.cell? ⟨b,o,none⟩=w.cell? ⟨b,o,none⟩:=fun o=>World.cell?_of_block (a:=⟨b,o,none⟩) hs
 exact ⟨h.ptrs.same hs,Nat.lt_of_lt_of_le h.lt hb.size,h.new,fun i=>(World.frozen?_of_block (a:=⟨b,i,none⟩) hs).trans (h.fr i),fun i hi=>by rw [hc];exact h.ex i hi,fun i hi=>by rw [hc];exact h.cell i hi,fun i hi=>(h.num i hi).butW hp hb (hne i hi),h.low,h.inj⟩
def isI (x:Value):Prop:=∃ n,x=.int .i64 n
def isB (x:Value):Prop:=∃ b,x=.bool b
structure TA where
 A:Option Addr
 cA:Nat
 bA:Option Addr
 cb:Nat
 sA:Option Addr
 cs:Nat
 hb:Nat
 rb:Nat→Nat
 P:Nat→Nat→Nat
structure TabD (w:World) (B t n m:Nat) (D:TA) (T:Tab) (Bs:Bas) (sg:Nat→Int) (sh:Nat→Bool):Prop where
 bt:B≤t
 t0:w.cell? ⟨t,0,none⟩=some (.int .i64 n)
 t1:w.cell? ⟨t,1,none⟩=some (.int .i64 m)
 t2:w.cell? ⟨t,2,none⟩=some (.slice D.A m D.cA)
 t3:w.cell? ⟨t,3,none⟩=some (.slice D.bA m D.cb)
 t4:w.cell? ⟨t,4,none⟩=some (.slice D.sA m D.cs)
 t5:w.cell? ⟨t,5,none⟩=some (.slice (some ⟨D.hb,0,none⟩) (n+2*m:Nat) (n+2*m:Nat))
 row:∀ i,i<m→∃ R,D.A=some ⟨R,0,none⟩∧w.cell? ⟨R,i,none⟩=some (.slice (some ⟨D.rb i,0,none⟩) (n+2*m+1:Nat) (n+2*m+1:Nat))
 num:∀ i,i<m→RowQ w B (D.rb i) (n+2*m+1) (n+2*m+1) (D.P i) (T i)
 inj:∀ i j k l,i<m→j<m→k<n+2*m+1→l<n+2*m+1→D.P i k=D.P j l→i=j
 bas:∀ i,i<m→∃ b,D.bA=some ⟨b,0,none⟩∧w.cell? ⟨b,i,none⟩=some (.int .i64 (Bs i))
 basO:∀ b,D.bA=some ⟨b,0,none⟩→0<m∧B≤b∧b<w.heap.size∧b≠t∧AllC isI w b∧∀ i,w.frozen? ⟨b,i,none⟩=false
 sgn:∀ i,i<m→∃ s,D.sA=some ⟨s,0,none⟩∧D.bA≠some ⟨s,0,none⟩∧w.cell? ⟨s,i,none⟩=some (.int .i64 (sg i))
 shut:∀ j,j<n+2*m→w.cell? ⟨D.hb,j,none⟩=some (.bool (sh j))
 shO:B≤D.hb∧D.hb<w.heap.size∧AllC isB w D.hb∧∀ i,w.frozen? ⟨D.hb,i,none⟩=false
section
variable {w w':World} {B t n m:Nat} {D:TA} {T:Tab} {Bs:Bas} {sg:Nat→Int} {sh:Nat→Bool}
theorem TabD.congr {T':Tab} {Bs':Bas} {sh':Nat→Bool} (h:TabD w B t n m D T Bs sg sh) (hT:∀ i j,i<m→j<n+2*m+1→T i j=T' i j) (hB:∀ i,i<m→Bs i=Bs' i) (hS:∀ j,j<n+2*m→sh j=sh' j):TabD w B t n m D T' Bs' sg sh' :=
 { h with num:=fun i hi=>(h.num i hi).congr fun j hj=>hT i j hi hj,bas:=fun i hi=>by rw [←hB i hi];exact h.bas i hi,shut:=fun j hj=>by rw [←hS j hj];exact h.shut j hj }
theorem TabD.ext (h:TabD w B t n m D T Bs sg sh) (hb:Below w.heap.size w w'):TabD w' B t n m D T Bs sg sh:=by
 have hc:∀ b o x,w.cell? ⟨b,o,none⟩=some x→w'.cell? ⟨b,o,none⟩=some x:=fun b o x e=>(hb.cell (p:=⟨b,o,none⟩) (cell_lt e)).trans e
 refine ⟨h.bt,hc _ _ _ h.t0,hc _ _ _ h.t1,hc _ _ _ h.t2,hc _ _ _ h.t3,hc _ _ _ h.t4,hc _ _ _ h.t5,fun i hi=>?_,fun i hi=>(h.num i hi).ext hb,h.inj,fun i hi=>?_,fun b e=>?_,fun i hi=>?_,fun j hj=>hc _ _ _ (h.shut j hj),?_⟩
 ·obtain ⟨R,e,h1⟩:=h.row i hi;exact ⟨R,e,hc _ _ _ h1⟩
 ·obtain ⟨b,e,h1⟩:=h.bas i hi;exact ⟨b,e,hc _ _ _ h1⟩
 ·obtain ⟨hm0,h1,hl,h2,h3,h4⟩:=h.basO b e
  exact ⟨hm0,h1,Nat.lt_of_lt_of_le hl hb.size,h2,h3.same (hb.block b hl),fun i=>(World.frozen?_of_block (a:=⟨b,i,none⟩) (hb.block b hl)).trans (h4 i)⟩
 ·obtain ⟨s,e,h2,h1⟩:=h.sgn i hi;exact ⟨s,e,h2,hc _ _ _ h1⟩
 ·obtain ⟨h1,h2,h3,h4⟩:=h.shO
  exact ⟨h1,Nat.lt_of_lt_of_le h2 hb.size,h3.same (hb.block _ h2),fun i=>(World.frozen?_of_block (a:=⟨D.hb,i,none⟩) (hb.block _ h2)).trans (h4 i)⟩
theorem ne_rat {p b o:Nat} {x:Value} (hp:RatBlk w p) (h:w.cell? ⟨b,0,none⟩=some x) (hx:∀ c,x≠.bool c):b≠p:=by
 rintro rfl
 obtain ⟨c,A,k,c2,h0,-⟩:=hp.int.c
 rw [h] at h0;injection h0 with h0;exact hx _ h0
theorem TabD.hb_ne (h:TabD w B t n m D T Bs sg sh) {p:Nat} (hp:RatBlk w p):D.hb≠p:=by
 rintro e
 obtain ⟨c,A,k,c2,-,h1⟩:=hp.int.c
 rw [←e] at h1
 obtain ⟨b,e2⟩:=h.shO.2.2.1 _ _ h1
 cases e2
theorem all_ne {Q:Value→Prop} {p b:Nat} (hp:RatBlk w p) (h:AllC Q w b) (hQ:∀ A k c,¬ Q (.slice A k c)):b≠p:=by
 rintro rfl
 obtain ⟨c,A,k,c2,-,h1⟩:=hp.int.c
 exact hQ _ _ _ (h _ _ h1)
theorem TabD.setRat (h:TabD w B t n m D T Bs sg sh) {i k:Nat} {x:Rat} (hi:i<m) (hk:k<n+2*m+1) (hx:RatP w' (D.P i k) x) (hb:But (D.P i k) w w') :
 TabD w' B t n m D (fun a b=>if a=i∧b=k then x else T a b) Bs sg sh:=by
 have hp:=((h.num i hi).num k hk).blk
 have hc:∀ b o x y,w.cell? ⟨b,0,none⟩=some y→(∀ c,y≠.bool c)→w.cell? ⟨b,o,none⟩=some x→w'.cell? ⟨b,o,none⟩=some x:=fun b o x y e hy ex =>
  (World.cell?_of_block (a:=⟨b,o,none⟩) (hb.block b (cell_lt ex) (ne_rat (o:=0) hp e hy))).trans ex
 have ht:∀ o x,w.cell? ⟨t,o,none⟩=some x→w'.cell? ⟨t,o,none⟩=some x:=fun o x e=>hc t o x _ h.t0 (fun c e=>by cases e) e
 refine ⟨h.bt,ht _ _ h.t0,ht _ _ h.t1,ht _ _ h.t2,ht _ _ h.t3,ht _ _ h.t4,ht _ _ h.t5,fun a ha=>?_,fun a ha=>?_,h.inj,fun a ha=>?_,fun b e=>?_,fun a ha=>?_,fun j hj=>?_,?_⟩
 ·obtain ⟨R,e,h1⟩:=h.row a ha
  obtain ⟨R',e',h0⟩:=h.row 0 (by omega)
  rw [e] at e';injection e' with e';injection e' with e';subst e'
  exact ⟨R,e,hc _ _ _ _ h0 (fun c e=>by cases e) h1⟩
 ·by_cases hai:a=i
  ·subst hai
   refine ((h.num a ha).set hk hx hb).congr fun j hj=>?_
   by_cases e:j=k
   ·rw [if_pos e,if_pos ⟨rfl,e⟩]
   ·rw [if_neg e,if_neg (fun c=>e c.2)]
  ·refine ((h.num a ha).other hp hb (fun j hj e=>hai (h.inj a i j k ha hi hj hk e))).congr fun j hj=>?_
   rw [if_neg (fun c=>hai c.1)]
 ·obtain ⟨b,e,h1⟩:=h.bas a ha
  obtain ⟨b',e',h0⟩:=h.bas 0 (by omega)
  rw [e] at e';injection e' with e';injection e' with e';subst e'
  exact ⟨b,e,hc _ _ _ _ h0 (fun c e=>by cases e) h1⟩
 ·obtain ⟨hm0,h1,hl,h2,h3,h4⟩:=h.basO b e
  have hne:=all_ne hp h3 (fun A k c e=>by obtain ⟨n,e⟩:=e;cases e)
  exact ⟨hm0,h1,Nat.lt_of_lt_of_le hl hb.size,h2,h3.same (hb.block b hl hne),fun i=>(World.frozen?_of_block (a:=⟨b,i,none⟩) (hb.block b hl hne)).trans (h4 i)⟩
 ·obtain ⟨s,e,h2,h1⟩:=h.sgn a ha
  obtain ⟨s',e',-,h0⟩:=h.sgn 0 (by omega)
  rw [e] at e';injection e' with e';injection e' with e';subst e'
  exact ⟨s,e,h2,hc _ _ _ _ h0 (fun c e=>by cases e) h1⟩
 ·exact (World.cell?_of_block (a:=⟨D.hb,j,none⟩) (hb.block _ h.shO.2.1 (h.hb_ne hp))).trans (h.shut j hj)
 ·obtain ⟨h1,h2,h3,h4⟩:=h.shO
  have hs:=hb.block _ h2 (h.hb_ne hp)
  exact ⟨h1,Nat.lt_of_lt_of_le h2 hb.size,h3.same hs,fun i=>(World.frozen?_of_block (a:=⟨D.hb,i,none⟩) hs).trans (h4 i)⟩
theorem rat_ne_all {Q:Value→Prop} {p b:Nat} (hp:RatBlk w p) (h:AllC Q w b) (hQ:∀ A k c,¬ Q (.slice A k c)):p≠b:=fun e=>all_ne hp h hQ e.symm
theorem TabD.setBas (h:TabD w B t n m D T Bs sg sh) {i b:Nat} (hi:i<m) (hbA:D.bA=some ⟨b,0,none⟩) (s:Nat) :
 TabD (w.setCell ⟨b,i,none⟩ (.int .i64 s)) B t n m D T (Lp.pivB Bs i s) sg sh:=by
 have hb:But b w (w.setCell ⟨b,i,none⟩ (.int .i64 s)):=(But.refl b w).set i _
 obtain ⟨hm0,hB,hl,hbt,hall,hfr⟩:=h.basO b hbA
 have hno:NoW w b:=fun o n e=>by obtain ⟨k,e2⟩:=hall o _ e;cases e2
 obtain ⟨b',e',h0⟩:=h.bas i hi
 rw [hbA] at e';injection e' with e';injection e' with e';subst e'
 have hsame:=World.cell?_setCell_same w ⟨b,i,none⟩ (.int .i64 s) h0
 have hoth:∀ o,o≠i→(w.setCell ⟨b,i,none⟩ (.int .i64 s)).cell? ⟨b,o,none⟩=w.cell? ⟨b,o,none⟩:=fun o ho =>
  World.cell?_setCell_other w ⟨b,i,none⟩ ⟨b,o,none⟩ _ (by intro e;injection e with _ e;exact ho e.symm)
 have hc:∀ c o x,c≠b→w.cell? ⟨c,o,none⟩=some x→(w.setCell ⟨b,i,none⟩ (.int .i64 s)).cell? ⟨c,o,none⟩=some x:=fun c o x hcb ex =>
  (World.cell?_of_block (a:=⟨c,o,none⟩) (hb.block c (cell_lt ex) hcb)).trans ex
 have ht:∀ o x,w.cell? ⟨t,o,none⟩=some x→(w.setCell ⟨b,i,none⟩ (.int .i64 s)).cell? ⟨t,o,none⟩=some x:=fun o x e=>hc t o x (Ne.symm hbt) e
 have hhb:D.hb≠b:=by
  rintro e
  have h1:=h.shO.2.2.1
  rw [e] at h1
  obtain ⟨c,e2⟩:=h1 i _ h0
  cases e2
 refine ⟨h.bt,ht _ _ h.t0,ht _ _ h.t1,ht _ _ h.t2,ht _ _ h.t3,ht _ _ h.t4,ht _ _ h.t5,fun a ha=>?_,fun a ha=>?_,h.inj,fun a ha=>?_,fun c e=>?_,fun a ha=>?_,fun j hj=>hc _ _ _ hhb (h.shut j hj),?_⟩
 ·obtain ⟨R,e,h1⟩:=h.row a ha
  exact ⟨R,e,hc _ _ _ (by rintro rfl;obtain ⟨k,e2⟩:=hall _ _ h1;cases e2) h1⟩
 ·refine (h.num a ha).butW hno hb ?_ (fun j hj=>rat_ne_all ((h.num a ha).num j hj).blk hall (fun A k c e=>by obtain ⟨n,e⟩:=e;cases e))
  intro e
  have h1:=(h.num a ha).cell 0 (by omega)
  rw [e] at h1
  obtain ⟨k,e2⟩:=hall _ _ h1;cases e2
 ·refine ⟨b,hbA,?_⟩
  unfold Lp.pivB
  by_cases e:a=i
  ·subst e;rw [if_pos rfl];exact hsame
  ·rw [if_neg e,hoth a e]
   obtain ⟨b',e',h1⟩:=h.bas a ha
   rw [hbA] at e';injection e' with e';injection e' with e';subst e'
   exact h1
 ·rw [hbA] at e;injection e with e;injection e with e;subst e
  refine ⟨hm0,hB,Nat.lt_of_lt_of_le hl hb.size,hbt,fun o x ex=>?_,fun j=>by simp only [World.frozen?_setCell];exact hfr j⟩
  by_cases ho:o=i
  ·subst ho;rw [hsame] at ex;injection ex with ex;exact ⟨_,ex.symm⟩
  ·rw [hoth o ho] at ex;exact hall o x ex
 ·obtain ⟨s',e,h2,h1⟩:=h.sgn a ha
  exact ⟨s',e,h2,hc _ _ _ (by rintro rfl;exact h2 hbA) h1⟩
 ·obtain ⟨h1,h2,h3,h4⟩:=h.shO
  have hs:=hb.block _ h2 hhb
  exact ⟨h1,Nat.lt_of_lt_of_le h2 hb.size,h3.same hs,fun j=>by simp only [World.frozen?_setCell];exact h4 j⟩
theorem TabD.setSh (h:TabD w B t n m D T Bs sg sh) {i:Nat} (hi:i<n+2*m) (x:Bool) :
 TabD (w.setCell ⟨D.hb,i,none⟩ (.bool x)) B t n m D T Bs sg (fun j=>if j=i then x else sh j):=by
 have hb:But D.hb w (w.setCell ⟨D.hb,i,none⟩ (.bool x)):=(But.refl _ w).set i _
 obtain ⟨hB,hl,hall,hfr⟩:=h.shO
 have hno:NoW w D.hb:=fun o n e=>by obtain ⟨k,e2⟩:=hall o _ e;cases e2
 have h0:=h.shut i hi
 have hsame:=World.cell?_setCell_same w ⟨D.hb,i,none⟩ (.bool x) h0
 have hoth:∀ o,o≠i→(w.setCell ⟨D.hb,i,none⟩ (.bool x)).cell? ⟨D.hb,o,none⟩=w.cell? ⟨D.hb,o,none⟩:=fun o ho =>
  World.cell?_setCell_other w ⟨D.hb,i,none⟩ ⟨D.hb,o,none⟩ _ (by intro e;injection e with _ e;exact ho e.symm)
 have hc:∀ c o y z,w.cell? ⟨c,z,none⟩=some y→¬ isB y→∀ v,w.cell? ⟨c,o,none⟩=some v→(w.setCell ⟨D.hb,i,none⟩ (.bool x)).cell? ⟨c,o,none⟩=some v:=fun c o y z ey hy v ev =>
  (World.cell?_of_block (a:=⟨c,o,none⟩) (hb.block c (cell_lt ev) (by rintro rfl;exact hy (hall _ _ ey)))).trans ev
 have hI:∀ n,¬ isB (.int .i64 n):=fun n e=>by obtain ⟨k,e⟩:=e;cases e
 have hS:∀ A k c,¬ isB (.slice A k c):=fun A k c e=>by obtain ⟨n,e⟩:=e;cases e
 have ht:∀ o v,w.cell? ⟨t,o,none⟩=some v→(w.setCell ⟨D.hb,i,none⟩ (.bool x)).cell? ⟨t,o,none⟩=some v:=fun o v e=>hc t o _ _ h.t0 (hI _) v e
 refine ⟨h.bt,ht _ _ h.t0,ht _ _ h.t1,ht _ _ h.t2,ht _ _ h.t3,ht _ _ h.t4,ht _ _ h.t5,fun a ha=>?_,fun a ha=>?_,h.inj,fun a ha=>?_,fun c e=>?_,fun a ha=>?_,fun j hj=>?_,?_⟩
 ·obtain ⟨R,e,h1⟩:=h.row a ha
  exact ⟨R,e,hc _ _ _ _ h1 (hS _ _ _) _ h1⟩
 ·refine (h.num a ha).butW hno hb ?_ (fun j hj=>rat_ne_all ((h.num a ha).num j hj).blk hall hS)
  intro e
  have h1:=(h.num a ha).cell 0 (by omega)
  rw [e] at h1
  obtain ⟨k,e2⟩:=hall _ _ h1;cases e2
 ·obtain ⟨b,e,h1⟩:=h.bas a ha
  exact ⟨b,e,hc _ _ _ _ h1 (hI _) _ h1⟩
 ·obtain ⟨hm0,h1,h5,h2,h3,h4⟩:=h.basO c e
  obtain ⟨b',e',h6⟩:=h.bas 0 hm0
  rw [e] at e';injection e' with e';injection e' with e';subst e'
  have hne:c≠D.hb:=by rintro rfl;exact hI _ (hall _ _ h6)
  exact ⟨hm0,h1,Nat.lt_of_lt_of_le h5 hb.size,h2,h3.same (hb.block c h5 hne),fun j=>by simp only [World.frozen?_setCell];exact h4 j⟩
 ·obtain ⟨s',e,h2,h1⟩:=h.sgn a ha
  exact ⟨s',e,h2,hc _ _ _ _ h1 (hI _) _ h1⟩
 ·by_cases e:j=i
  ·subst e;rw [if_pos rfl];exact hsame
  ·rw [if_neg e,hoth j e];exact h.shut j hj
 ·refine ⟨hB,Nat.lt_of_lt_of_le hl hb.size,fun o y ey=>?_,fun j=>by simp only [World.frozen?_setCell];exact hfr j⟩
  by_cases ho:o=i
  ·subst ho;rw [hsame] at ey;injection ey with ey;exact ⟨_,ey.symm⟩
  ·rw [hoth o ho] at ey;exact hall o y ey
end
end
section
open Go.RowKit
structure Chg (S:Nat→Prop) (w w':World):Prop where
 os:w'.os=w.os
 tape:w'.tape=w.tape
 output:w'.output=w.output
 size:w.heap.size≤w'.heap.size
 block:∀ k,k<w.heap.size→¬ S k→w'.heap[k]? = w.heap[k]?
 words:∀ k o n,w.cell? ⟨k,o,none⟩=some (.int .u32 n)→w'.heap[k]? = w.heap[k]?
section
variable {S:Nat→Prop} {w w' w'':World}
theorem Chg.refl (S:Nat→Prop) (w:World):Chg S w w:=⟨rfl,rfl,rfl,Nat.le_refl _,fun _ _ _=>rfl,fun _ _ _ _=>rfl⟩
theorem Chg.trans (h:Chg S w w') (k:Chg S w' w''):Chg S w w'' :=
 ⟨k.os.trans h.os,k.tape.trans h.tape,k.output.trans h.output,Nat.le_trans h.size k.size,fun i hi hb=>(k.block i (Nat.lt_of_lt_of_le hi h.size) hb).trans (h.block i hi hb),fun i o n hc=>by
  have h1:=h.words i o n hc
  have h2:w'.cell? ⟨i,o,none⟩=some (.int .u32 n):=(World.cell?_of_block (a:=⟨i,o,none⟩) h1).trans hc
  exact (k.words i o n h2).trans h1⟩
theorem Chg.mono {R:Nat→Prop} (h:Chg S w w') (hs:∀ k,S k→R k):Chg R w w':=⟨h.os,h.tape,h.output,h.size,fun k hk ht=>h.block k hk fun hS=>ht (hs k hS),h.words⟩
theorem Chg.ofBelow (h:Below w.heap.size w w'):Chg S w w':=⟨h.os,h.tape,h.output,h.size,fun k hk _=>h.block k hk,fun k o n hc=>h.block k (cell_lt hc)⟩
theorem Chg.ext (h:Chg S w w') (k:Below w'.heap.size w' w''):Chg S w w'':=h.trans (.ofBelow k)
theorem Chg.ofBut {p:Nat} (h:But p w w') (hp:NoW w p) (hs:S p):Chg S w w' :=
 ⟨h.os,h.tape,h.output,h.size,fun k hk hS=>h.block k hk (fun e=>hS (e ▸ hs)),fun k o n hc=>h.block k (cell_lt hc) (fun e=>by subst e;exact hp _ _ hc)⟩
theorem Chg.below {B:Nat} (h:Chg S w w') (hs:∀ k,S k→B≤k) (hB:B≤w.heap.size):Below B w w' :=
 ⟨h.os,h.tape,h.output,h.size,fun k hk=>h.block k (by omega) fun hS=>by have:=hs k hS;omega⟩
theorem IntBlk.noW {p:Nat} (h:IntBlk w p):NoW w p:=fun o n e=>h.no _ _ _ e
theorem RatBlk.noW {p:Nat} (h:RatBlk w p):NoW w p:=h.int.noW
theorem WSl.chg {v:Value} {n:Nat} (h:WSl w v n) (hc:Chg S w w'):WSl w' v n:=by
 obtain ⟨A,c,h1,h2,h3,h4⟩:=h
 refine ⟨A,c,h1,h2,h3,fun i hi=>?_⟩
 obtain ⟨b,off,e,h5⟩:=h4 i hi
 exact ⟨b,off,e,(World.cell?_of_block (w:=w) (hc.words _ _ _ h5)).trans h5⟩
theorem RatP.chg {p:Nat} {x:Rat} (h:RatP w p x) (hc:Chg S w w') (hp:¬ S p):RatP w' p x:=by
 have hs:=hc.block p h.lt hp
 obtain ⟨h1,⟨h2,u,h5,h6,h7⟩,v,h3,h4⟩:=h
 refine ⟨h1.same hs,⟨h2.same hs,u,(World.cell?_of_block (a:=⟨p,0,none⟩) hs).trans h5,(World.cell?_of_block (a:=⟨p,1,none⟩) hs).trans h6,h7.chg hc⟩,v,(World.cell?_of_block (a:=⟨p,2,none⟩) hs).trans h3,?_⟩
 rcases h4 with h|⟨h8,h⟩
 ·exact .inl (h.chg hc)
 ·exact .inr ⟨h8,h.chg hc⟩
theorem RowQ.chg {B b n m:Nat} {P:Nat→Nat} {q:Nat→Rat} (h:RowQ w B b n m P q) (hc:Chg S w w') (hb:¬ S b) (hP:∀ i,i<m→¬ S (P i)):RowQ w' B b n m P q:=by
 have hs:=hc.block b h.lt hb
 have hcc:∀ o,w'.cell? ⟨b,o,none⟩=w.cell? ⟨b,o,none⟩:=fun o=>World.cell?_of_block (a:=⟨b,o,none⟩) hs
 exact ⟨h.ptrs.same hs,Nat.lt_of_lt_of_le h.lt hc.size,h.new,fun i=>(World.frozen?_of_block (a:=⟨b,i,none⟩) hs).trans (h.fr i),fun i hi=>by rw [hcc];exact h.ex i hi,fun i hi=>by rw [hcc];exact h.cell i hi,fun i hi=>(h.num i hi).chg hc (hP i hi),h.low,h.inj⟩
end
def inT (D:TA) (n m k:Nat):Prop:=(∃ i j,i<m∧j<n+2*m+1∧D.P i j=k)∨(0<m∧D.bA=some ⟨k,0,none⟩)∨k=D.hb
theorem TabD.old {w:World} {B t n m:Nat} {D:TA} {T:Lp.Tab} {Bs:Lp.Bas} {sg:Nat→Int} {sh:Nat→Bool} (h:TabD w B t n m D T Bs sg sh):∀ k,inT D n m k→B≤k∧k<w.heap.size:=by
 rintro k (⟨i,j,hi,hj,rfl⟩|⟨hm,e⟩|rfl)
 ·exact ⟨(h.num i hi).low j hj,((h.num i hi).num j hj).lt⟩
 ·have:=h.basO k e;exact ⟨this.2.1,this.2.2.1⟩
 ·exact ⟨h.shO.1,h.shO.2.1⟩
def Sq (k:Nat) (x:Rat):Prop:=(digits x.num.natAbs).length≤k∧(digits x.den).length≤k
theorem Sq.rsm {k:Nat} {x:Rat} (h:Sq k x) (hk:k≤10000000):RSm x:=⟨Nat.le_trans h.1 hk,Nat.le_trans h.2 hk⟩
theorem Sq.mono {k l:Nat} {x:Rat} (h:Sq k x) (hk:k≤l):Sq l x:=⟨Nat.le_trans h.1 hk,Nat.le_trans h.2 hk⟩
theorem mkRat_le (n:Int) (d:Nat) (hd:d≠0):(mkRat n d).num.natAbs≤n.natAbs∧(mkRat n d).den≤d:=by
 rw [Rat.num_mkRat,Rat.den_mkRat,if_neg hd,if_neg hd]
 refine ⟨?_,Nat.div_le_self _ _⟩
 rw [Int.natAbs_ediv_of_dvd (Int.ofNat_dvd_left.2 (Nat.gcd_dvd_right _ _))]
 exact Nat.div_le_self _ _
theorem Sq.mul {k l:Nat} {x y:Rat} (hx:Sq k x) (hy:Sq l y):Sq (k+l) (x*y):=by
 have h:=mkRat_le (x.num*y.num) (x.den*y.den) (Nat.ne_of_gt (Nat.mul_pos x.den_pos y.den_pos))
 rw [rat_mul_mk] at h
 refine ⟨Nat.le_trans (digits_mono_len h.1) ?_,Nat.le_trans (digits_mono_len h.2) ?_⟩
 ·rw [Int.natAbs_mul];exact Nat.le_trans (mul_len _ _) (by have:=hx.1;have:=hy.1;omega)
 ·exact Nat.le_trans (mul_len _ _) (by have:=hx.2;have:=hy.2;omega)
theorem Sq.neg {k:Nat} {x:Rat} (hx:Sq k x):Sq k (-x):=by
 unfold Sq at *;rw [Rat.neg_num,Int.natAbs_neg,Rat.neg_den];exact hx
theorem Sq.add {k l:Nat} {x y:Rat} (hx:Sq k x) (hy:Sq l y):Sq (k+l+1) (x+y):=by
 have h:=mkRat_le (x.num*(y.den:Int)+y.num*(x.den:Int)) (x.den*y.den) (Nat.ne_of_gt (Nat.mul_pos x.den_pos y.den_pos))
 rw [rat_add_mk] at h
 refine ⟨Nat.le_trans (digits_mono_len h.1) ?_,Nat.le_trans (digits_mono_len h.2) ?_⟩
 ·refine abs_add_len (k:=k+l) ?_ ?_
  ·rw [Int.natAbs_mul,Int.natAbs_natCast];exact Nat.le_trans (mul_len _ _) (by have:=hx.1;have:=hy.2;omega)
  ·rw [Int.natAbs_mul,Int.natAbs_natCast];exact Nat.le_trans (mul_len _ _) (by have:=hy.1;have:=hx.2;omega)
 ·exact Nat.le_trans (mul_len _ _) (by have:=hx.2;have:=hy.2;omega)
theorem Sq.sub {k l:Nat} {x y:Rat} (hx:Sq k x) (hy:Sq l y):Sq (k+l+1) (x-y):=by
 rw [Rat.sub_eq_add_neg];exact hx.add hy.neg
theorem Sq.inv {k:Nat} {x:Rat} (hx:Sq k x) (h0:x.num≠0):Sq k x⁻¹:=by
 unfold Sq at *
 rw [Rat.den_inv,if_neg h0,Rat.num_inv,Int.natAbs_mul,Int.natAbs_natCast,Int.natAbs_sign_of_ne_zero h0,Nat.one_mul]
 exact ⟨hx.2,hx.1⟩
end
section
open Go.RowKit
open Lp (Tab Bas sumTo redc)
theorem mv_eq {B:Nat} {FB:World→Nat→Prop} {Ks:List Tmp} {x:Tmp→Value} {w:World} {t:Tmp} {own:Option Tmp} {c v:Value} (h:v=c) (hk:Ks.contains t=false):Mv B FB Ks t own (leafS t c) x w v w:=by
 subst h;exact mv_const v hk
theorem ratSgn (x:Rat):(x=0∧sgnI x.num 0=0)∨(x<0∧sgnI x.num 0 = -1)∨(0<x∧sgnI x.num 0=1):=by
 rcases Int.lt_trichotomy x.num 0 with h|h|h
 ·exact .inr (.inl ⟨by have:=@Rat.num_nonneg x;grind,sgnI_lt h⟩)
 ·exact .inl ⟨Rat.num_eq_zero.1 h,sgnI_eq h⟩
 ·exact .inr (.inr ⟨by have:=@Rat.num_nonneg x;have:=@Rat.num_eq_zero x;grind,sgnI_gt h⟩)
theorem sgn_lt0 (x:Rat):sgnI x.num 0<0↔x<0:=by rcases ratSgn x with ⟨h0,h1⟩|⟨h0,h1⟩|⟨h0,h1⟩<;>rw [h1]<;>grind
theorem sgn_le0 (x:Rat):sgnI x.num 0≤0↔x≤0:=by rcases ratSgn x with ⟨h0,h1⟩|⟨h0,h1⟩|⟨h0,h1⟩<;>rw [h1]<;>grind
theorem sgn_eq0 (x:Rat):sgnI x.num 0=0↔x=0:=by rcases ratSgn x with ⟨h0,h1⟩|⟨h0,h1⟩|⟨h0,h1⟩<;>rw [h1]<;>grind
theorem sgn_gt0 (x:Rat):decide (0<x)=decide (0<sgnI x.num 0):=by rcases ratSgn x with ⟨h0,h1⟩|⟨h0,h1⟩|⟨h0,h1⟩<;>rw [h1]<;>simp<;>grind
theorem Sq.wn {k:Nat} {x:Rat} (h:Sq k x) (hk:k≤100000000:=by omega):Wide x.num:=Nat.le_trans h.1 hk
theorem Sq.zero:Sq 2 0:=⟨digits_small.2 (by decide),digits_small.2 (by decide)⟩
def SqT (k m N1:Nat) (T:Tab):Prop:=∀ i j,i<m→j<N1→Sq k (T i j)
def redTo (N i:Nat) (T:Tab) (Bs:Bas) (cost:Nat→Rat) (j:Nat):Rat:=(if j<N then cost j else 0)-sumTo i fun a=>cost (Bs a)*T a j
theorem redTo_zero (N:Nat) (T:Tab) (Bs:Bas) (cost:Nat→Rat) (j:Nat):redTo N 0 T Bs cost j=if j<N then cost j else 0:=by
 unfold redTo;simp only [sumTo];grind
theorem redTo_succ (N i:Nat) (T:Tab) (Bs:Bas) (cost:Nat→Rat) (j:Nat):redTo N (i+1) T Bs cost j=redTo N i T Bs cost j-cost (Bs i)*T i j:=by
 unfold redTo;simp only [sumTo];grind
theorem redTo_sq {N m N1:Nat} {T:Tab} {Bs:Bas} {cost:Nat→Rat} (hT:SqT 10 m N1 T) (hB:∀ i,i<m→Bs i<N) (hc:∀ j,j<N→Sq 10 (cost j)):∀ i,i≤m→∀ j,j<N1→Sq (10+21*i) (redTo N i T Bs cost j)
 | 0,_,j,_=>by
   rw [redTo_zero];split
   ·exact hc j (by assumption)
   ·exact Sq.zero.mono (by omega)
 | i+1,hi,j,hj=>by
   rw [redTo_succ]
   exact ((redTo_sq hT hB hc i (by omega) j hj).sub ((hc _ (hB i (by omega))).mul (hT i j (by omega) hj))).mono (by omega)
set_option maxRecDepth 100000 in
set_option maxHeartbeats 2000000 in
theorem reduced_calls (B t n m:Nat) (D:TA) (T:Tab) (Bs:Bas) (sg:Nat→Int) (sh:Nat→Bool) (Bc bc:Nat) (C:Nat→Nat) (cost:Nat→Rat) (w:World) (hT:TabD w B t n m D T Bs sg sh) (hc:RowQ w Bc bc (n+2*m) (n+2*m) C cost)
 (hn:n≤100) (hm:m≤100) (hB:∀ i,i<m→Bs i<n+2*m) (sT:SqT 10 m (n+2*m+1) T) (sc:∀ j,j<n+2*m→Sq 10 (cost j)) :
 Calls Tryz.prog 214 #[.pointer (some ⟨t,0,none⟩),.slice (some ⟨bc,0,none⟩) (n+2*m:Nat) (n+2*m:Nat)] w fun e w'=>∃ b P,e=.returned (.slice (some ⟨b,0,none⟩) (n+2*m+1:Nat) (n+2*m+1:Nat))∧RowQ w' w.heap.size b (n+2*m+1) (n+2*m+1) P (redTo (n+2*m) m T Bs cost)∧Below w.heap.size w w':=by
 have c0:=hT.t0
 have c1:=hT.t1
 have SQ:=hid (redTo_sq sT hB sc)
 have HT:=hid hT;have HCO:=hid hc;have HB:=hid hB;have ST:=hid sT;have SC:=hid sc
 clear hT hc hB sT sc
 obtain ⟨A,cA,bA,cb,sA,cs,hbk,rb,Pt⟩:=D
 obtain ⟨N,hN⟩:∃ N,n+2*m=N:=⟨_,rfl⟩
 obtain ⟨N1,hN1⟩:∃ N1,N+1=N1:=⟨_,rfl⟩
 have HN:=hid hN;have HN1:=hid hN1
 rw [hN] at HB SC HCO SQ ST ⊢
 rw [hN1] at ST SQ
 rw [hN1]
 have hTrow:Hid (∀ i,i<m→∃ R,A=some ⟨R,0,none⟩∧w.cell? ⟨R,i,none⟩=some (.slice (some ⟨rb i,0,none⟩) N1 N1)):=hid (by have:=HT.out.row;rw [hN,hN1] at this;exact this)
 have hTnum:Hid (∀ i,i<m→RowQ w B (rb i) N1 N1 (Pt i) (T i)):=hid (by have:=HT.out.num;rw [hN,hN1] at this;exact this)
 have hNb:N1≤301:=by omega
 clear hN hN1
 go_enter Tryz.func214,Tryz.ntmps214
 go_wp2_with fail
 refine wp_region_kc (w0:=w) 11 [11,12,13,14,15,16,17,18,19,20,21]
  [.c (.pointer (some ⟨t,0,none⟩)),.c (.pointer (some ⟨t,0,none⟩)),.c (.pointer (some ⟨t,0,none⟩)),.c (.int .i64 n),.c (.pointer (some ⟨t,0,none⟩)),.c (.pointer (some ⟨t,0,none⟩)),.c (.pointer (some ⟨t,1,none⟩)),.c (.int .i64 m),.c (.int .i64 (2*m:Nat)),.c (.int .i64 N),.c (.int .i64 N1)]
  [] RatBlk (by kernel_rfl) (by kernel_rfl) (by kernel_rfl) rfl (F:=?cFr1) ?r1c1 ?r1c2 ?r1c3 ?r1c4
 case r1c1 =>
  intro x
  simp only [fullC,Act.put,List.setIfInBounds_toArray,List.set_cons_zero,List.set_cons_succ]
  rfl
 case r1c2 =>
  exact trivial
 case r1c3 =>
  refine ⟨?_,?_,?_,?_,?_,?_,?_,?_,?_,?_,?_,trivial⟩
  all_goals
   intro xx wq HE hd K hK
   have hc:=(bcell HE).1
   have c0':=(hc _ _ (cell_lt c0)).trans c0
   have c1':=(hc _ _ (cell_lt c1)).trans c1
   have HE:=hid HE
   have HC:=hid hc
   clear hd hc
   all_goals go_simp
   try (refine hK _ _ _ (mv_const _ rfl) ?_;dsimp only [Act.put];first|done|rfl|(simp [*];done))
  ·refine hK (.int .i64 (IntKind.i64.wrap (2*(m:Int)))) _ _ (mv_eq ?_ rfl) (by first|(dsimp only [Act.put];done)|(dsimp only [Act.put];first|rfl|(simp [*];done)|(simp [*,ptr];done)))
   (congr 1;simp only [IntKind.wrap_i64,wrap64];omega)
  ·refine hK (.int .i64 (IntKind.i64.wrap ((n:Int)+2*(m:Int)))) _ _ (mv_eq ?_ rfl) (by first|(dsimp only [Act.put];done)|(dsimp only [Act.put];first|rfl|(simp [*];done)|(simp [*,ptr];done)))
   have:=HN.out
   (congr 1;simp only [IntKind.wrap_i64,wrap64];omega)
  ·refine hK (.int .i64 (IntKind.i64.wrap ((N:Int)+1))) _ _ (mv_eq ?_ rfl) (by first|(dsimp only [Act.put];done)|(dsimp only [Act.put];first|rfl|(simp [*];done)|(simp [*,ptr];done)))
   have:=HN.out
   have:=HN1.out
   (congr 1;simp only [IntKind.wrap_i64,wrap64];omega)
 case r1c4 =>
  intro xx wz hE hG hA
  have e2:xx 13=_:=hG 2 _ rfl
  have HE:=hid hE
  clear hG hA hE
  refine tail_one (i:=11) (by kernel_rfl) rfl ?_
  intro K hK
  go_simp
  refine (entries_calls N1 wz (by have:=HN.out;have:=HN1.out;omega)).mono ?_;rintro e w2 ⟨b,Z,rfl,hZ,hb2⟩
  refine hK _ _ ?_
  have HB2:=hid (HE.out.trans (hb2.mono HE.out.size))
  have HZ:Hid (RowQ w2 w.heap.size b N1 N1 Z (fun _=>0)):=hid ⟨hZ.ptrs,hZ.lt,Nat.le_trans HE.out.size hZ.new,hZ.fr,hZ.ex,hZ.cell,hZ.num,fun i hi=>Nat.le_trans HE.out.size (hZ.low i hi),hZ.inj⟩
  clear hK hZ hb2 HE
  (refine tail_one (i:=12) (by kernel_rfl) rfl ?_;intro K hK;go_simp;refine hK _ _ ?_;clear hK)
  refine wpAny_done (by kernel_rfl) ?_ _
  go_wp2_with fail
  go_loopw [25] (fun tj wr=>∃ (j:Nat),j≤N1∧tj=.int .i64 j∧Hid (RowQ wr w.heap.size b N1 N1 Z (fun k=>if k<j then redTo N 0 T Bs cost k else 0))∧Hid (Below w.heap.size w wr)) (fun tj _=>N1-(intOf tj).toNat)
  case atStart=>exact ⟨0,Nat.zero_le _,rfl,hid (HZ.out.congr fun i hi=>by rw [if_neg (by omega)]),HB2⟩
  case round =>
   clear HZ HB2
   obtain ⟨j,hj,rfl,hZ,hbe⟩:=hrel
   by_cases hlt:j<N1
   ·have hj1:(j:Int)<N1:=by omega
    by_cases hl2:j<N
    ·have hj2:(j:Int)<N:=by omega
     have q1:=hZ.out.cell j hlt
     have q2:=(HCO.out.ext hbe.out).cell j hl2
     go_wp2_with fail
     refine wp_region_kc (w0:=wr) 8 [32,33,34,35,36,37,38,39]
      [.c (.slice (some ⟨b,0,none⟩) N1 N1),.c (.int .i64 j),.c (.pointer (some ⟨b,j,none⟩)),.c (.pointer (some ⟨(Z j),0,none⟩)),.c (.slice (some ⟨bc,0,none⟩) N N),.c (.int .i64 j),.c (.pointer (some ⟨bc,j,none⟩)),.c (.pointer (some ⟨(C j),0,none⟩))]
      [] RatBlk (by kernel_rfl) (by kernel_rfl) (by kernel_rfl) rfl (F:=?cFr6) ?r6c1 ?r6c2 ?r6c3 ?r6c4
     case r6c1 =>
      intro x
      simp only [fullC,Act.put,List.setIfInBounds_toArray,List.set_cons_zero,List.set_cons_succ]
      rfl
     case r6c2 =>
      exact trivial
     case r6c3 =>
      refine ⟨?_,?_,?_,?_,?_,?_,?_,?_,trivial⟩
      all_goals
       intro xx wq HE hd K hK
       have hc:=(bcell HE).1
       have q1':=(hc _ _ (cell_lt q1)).trans q1
       have q2':=(hc _ _ (cell_lt q2)).trans q2
       have HE:=hid HE
       have HC:=hid hc
       clear hd hc
       all_goals go_simp
       try (refine hK _ _ _ (mv_const _ rfl) ?_;dsimp only [Act.put];first|done|rfl|(simp [*];done))
     case r6c4 =>
      intro xx wz hE hG hA
      have e2:xx 34=_:=hG 2 _ rfl
      have HE:=hid hE
      clear hG hA hE
      refine tail_one (i:=8) (by kernel_rfl) rfl ?_
      intro K hK
      go_simp
      have hz1:=hZ.out.ext HE.out
      refine (ratSetTo_calls (Z j) (C j) (cost j) wz (hz1.num j hlt).blk ((HCO.out.ext (hbe.out.trans (HE.out.mono hbe.out.size))).num j hl2)).mono ?_;rintro e w3 ⟨rfl,hx,hb3⟩
      refine hK _ _ ?_
      have HZ3:=hid (hz1.set hlt hx hb3)
      have HB3:=hid ((hbe.out.trans (HE.out.mono hbe.out.size)).trans (hb3.below (hz1.low j hlt) (by have:=hbe.out.size;have:=HE.out.size;omega)))
      clear hK hx hb3 hz1
      refine wpAny_done (by kernel_rfl) ?_ _
      go_wp2
      go_roundw
      case rel =>
       refine ⟨j+1,by omega,by go_num,hid (HZ3.out.congr fun k hk=>?_),HB3⟩
       simp only [redTo_zero]
       by_cases e:k=j
       ·subst e;rw [if_pos rfl,if_pos (by omega),if_pos hl2]
       ·rw [if_neg e]
        by_cases e2:k<j
        ·rw [if_pos e2,if_pos (show k<j+1 by omega)]
        ·rw [if_neg e2,if_neg (show ¬ k<j+1 by omega)]
      case measure=>simp [intOf];omega
    ·have hj2:¬ (j:Int)<N:=by omega
     go_wp2
     go_roundw
     case rel =>
      refine ⟨j+1,by omega,by go_num,hid (hZ.out.congr fun k hk=>?_),hbe⟩
      by_cases e:k=j
      ·rw [if_neg (by omega),if_pos (by omega),redTo_zero,if_neg (by omega)]
      ·by_cases e2:k<j
       ·rw [if_pos e2,if_pos (by omega)]
       ·rw [if_neg e2,if_neg (by omega)]
     case measure=>simp [intOf];omega
   ·obtain rfl:N1=j:=by omega
    have HZ:=hid (hZ.out.congr (r:=redTo N 0 T Bs cost) fun k hk=>by rw [if_pos hk])
    have c2:wr.cell? ⟨t,2,none⟩=some (.slice A m cA):=(HT.out.ext hbe.out).t2
    clear hZ
    go_wp2_with fail
    go_loopw [47] (fun ti wr=>∃ (i:Nat),i≤m∧ti=.int .i64 i∧Hid (RowQ wr w.heap.size b N1 N1 Z (redTo N i T Bs cost))∧Hid (Below w.heap.size w wr)) (fun ti _=>m-(intOf ti).toNat)
    case atStart=>exact ⟨0,Nat.zero_le _,rfl,HZ,hbe⟩
    case round =>
     clear HZ hbe c2
     obtain ⟨i,hi,rfl,hZ,hbe⟩:=hrel
     by_cases hlt:i<m
     ·have hi1:(i:Int)<m:=by omega
      obtain ⟨R,rfl,hR0⟩:=hTrow.out i hlt
      obtain ⟨bb,hbA,hb0⟩:=HT.out.bas i hlt
      have hbA:bA=some ⟨bb,0,none⟩:=hbA
      subst hbA
      have hbc:=(bcell hbe.out).1
      have q1:=(hbc _ _ (cell_lt hR0)).trans hR0
      have q3:wr.cell? ⟨t,3,none⟩=some (.slice (some ⟨bb,0,none⟩) m cb):=(HT.out.ext hbe.out).t3
      have q4:=(hbc _ _ (cell_lt hb0)).trans hb0
      have hBi:=HB.out i hlt
      have hBi1:(Bs i:Int)<N:=by omega
      have q5:=(HCO.out.ext hbe.out).cell (Bs i) hBi
      have HSG:=hid (ratSign_calls (C (Bs i)) (cost (Bs i)) wr ((HCO.out.ext hbe.out).num (Bs i) hBi))
      clear hbc hR0 hb0
      go_wp2_with fail
      refine HSG.out.mono ?_;rintro e w3 ⟨rfl,rfl⟩
      clear HSG
      obtain ⟨s,hs,hs0⟩:∃ s:Int,sgnI (cost (Bs i)).num 0=s∧(s=0↔cost (Bs i)=0):=⟨_,rfl,sgn_eq0 _⟩
      rw [hs]
      clear hs
      by_cases h0:s=0
      ·have HS0:=hid (hs0.1 h0)
       clear hs0
       subst h0
       go_wp2
       go_roundw
       case rel =>
        refine ⟨i+1,by omega,by go_num,hid (hZ.out.congr fun k hk=>?_),hbe⟩
        rw [redTo_succ,HS0.out];grind
       case measure=>simp [intOf];omega
      ·clear hs0
       have HSC:=hid (SC.out (Bs i) hBi)
       clear q1 q3 q4 q5
       have h0f:(s == 0)=false:=by simpa using h0
       go_wp2_with fail
       go_loopw [67] (fun tj wr=>∃ (j:Nat),j≤N1∧tj=.int .i64 j∧Hid (RowQ wr w.heap.size b N1 N1 Z (fun k=>if k<j then redTo N (i+1) T Bs cost k else redTo N i T Bs cost k))∧Hid (Below w.heap.size w wr)) (fun tj _=>N1-(intOf tj).toNat)
       case atStart=>exact ⟨0,Nat.zero_le _,rfl,hid (hZ.out.congr fun k hk=>by rw [if_neg (by omega)]),hbe⟩
       case round =>
        clear hZ hbe
        obtain ⟨j,hj,rfl,hZ,hbe⟩:=hrel
        by_cases hlj:j<N1
        ·have hj1:(j:Int)<N1:=by omega
         have q1:=hZ.out.cell j hlj
         have q2:=((hTnum.out i hlt).ext hbe.out).cell j hlj
         have HXJ:Hid (RSm (redTo N i T Bs cost j)):=hid ((SQ.out i (by omega) j hlj).rsm (by omega))
         have HML:Hid (RSm (cost (Bs i)*T i j)):=hid ((HSC.out.mul (ST.out i j hlt hlj)).rsm (by omega))
         have HCC:Hid (RSm (cost (Bs i))):=hid (HSC.out.rsm (by omega))
         have HTT:Hid (RSm (T i j)):=hid ((ST.out i j hlt hlj).rsm (by omega))
         go_wp2_with fail
         refine wp_region_kc (w0:=wr) 15 [70,71,72,73,74,75,76,77,78,79,80,81,82,83,84]
          [.c (.slice (some ⟨b,0,none⟩) N1 N1),.c (.int .i64 j),.c (.pointer (some ⟨b,j,none⟩)),.c (.pointer (some ⟨(Z j),0,none⟩)),.c (.slice (some ⟨b,0,none⟩) N1 N1),.c (.int .i64 j),.c (.pointer (some ⟨b,j,none⟩)),.c (.pointer (some ⟨(Z j),0,none⟩)),.l none (leafA RatBlk · wr.heap.size),.c (.pointer (some ⟨(C (Bs i)),0,none⟩)),.c (.slice (some ⟨rb i,0,none⟩) N1 N1),.c (.int .i64 j),.c (.pointer (some ⟨rb i,j,none⟩)),.c (.pointer (some ⟨(Pt i j),0,none⟩)),.l (some 78) (leafR 78 · (fun p w=>RatP w p (cost (Bs i)*T i j)) wr.heap.size)]
          [78] RatBlk (by kernel_rfl) (by kernel_rfl) (by kernel_rfl) rfl (F:=?cFr16) ?r16c1 ?r16c2 ?r16c3 ?r16c4
         case r16c1 =>
          intro x
          simp only [fullC,Act.put,List.setIfInBounds_toArray,List.set_cons_zero,List.set_cons_succ]
          rfl
         case r16c2 =>
          exact ⟨keeps_alloc ratBlk_ext ratBlk_other _ _ _ _ _,keeps_res (calm_rat _) _ _ _ _ _ rfl (by decide),trivial⟩
         case r16c3 =>
          refine ⟨?_,?_,?_,?_,?_,?_,?_,?_,?_,?_,?_,?_,?_,?_,?_,trivial⟩
          all_goals
           intro xx wq HE hd K hK
           have hc:=(bcell HE).1
           have q1':=(hc _ _ (cell_lt q1)).trans q1
           have q2':=(hc _ _ (cell_lt q2)).trans q2
           try have g8:=hd 8 _ (by decide) rfl
           try have g14:=hd 14 _ (by decide) rfl
           have HE:=hid HE
           have HC:=hid hc
           clear hd hc
           all_goals go_simp
           try (refine hK _ _ _ (mv_const _ rfl) ?_;dsimp only [Act.put];first|done|rfl|(simp [*];done))
          ·refine hK _ _ _ (mv_alloc _ HE.out.size (RatBlk.new _)) ?_
           dsimp only [Act.put]
           first|rfl|(simp [*];done)|(simp [*,ptr];done)
          ·obtain ⟨k,h78,hk1,hk2⟩:=g8
           rw [h78]
           refine (ratMul_calls k (C (Bs i)) (Pt i j) _ _ wq hk2 ((HCO.out.ext (hbe.out.trans (HE.out.mono hbe.out.size))).num (Bs i) hBi) (((hTnum.out i hlt).ext (hbe.out.trans (HE.out.mono hbe.out.size))).num j hlj) HCC.out HTT.out).mono ?_
           rintro e w2 ⟨rfl,hz2,hb2⟩
           exact hK _ _ _ (mv_set h78 hk1 hk2 hz2.blk hb2 hz2 (by decide) rfl) (by first|(dsimp only [Act.put];done)|(dsimp only [Act.put];first|rfl|(simp [*];done)|(simp [*,ptr];done)))
         case r16c4 =>
          intro xx wz hE hG hA
          have e2:xx 72=_:=hG 2 _ rfl
          have g8:=hG 8 _ rfl
          have g14:=hG 14 _ rfl
          obtain ⟨k,h78,h84,hk1,hk2⟩:=g14
          unfold ptr at h84
          have HE:=hid hE;have HK2:=hid hk2
          clear hG hA hE g8 hk2 h78
          refine tail_one (i:=15) (by kernel_rfl) rfl ?_
          intro K hK
          go_simp
          have hz1:=hZ.out.ext HE.out
          have hnj:=hz1.num j hlj
          rw [if_neg (by omega)] at hnj
          refine (ratSub_calls (Z j) (Z j) k _ _ wz hnj.blk hnj HK2.out HXJ.out HML.out).mono ?_;rintro e w3 ⟨rfl,hx,hb3⟩
          refine hK _ _ ?_
          have HZ3:=hid (hz1.set hlj hx hb3)
          have HB3:=hid ((hbe.out.trans (HE.out.mono hbe.out.size)).trans (hb3.below (hz1.low j hlj) (by have:=hbe.out.size;have:=HE.out.size;omega)))
          clear hK hx hb3 hz1 hnj HK2
          refine wpAny_done (by kernel_rfl) ?_ _
          go_wp2
          go_roundw
          case rel =>
           refine ⟨j+1,by omega,by go_num,hid (HZ3.out.congr fun k hk=>?_),HB3⟩
           by_cases e:k=j
           ·subst e;rw [if_pos rfl,if_pos (by omega),redTo_succ]
           ·rw [if_neg e]
            by_cases e2:k<j
            ·rw [if_pos e2,if_pos (by omega)]
            ·rw [if_neg e2,if_neg (by omega)]
          case measure=>simp [intOf];omega
        ·obtain rfl:N1=j:=by omega
         have HZ:=hid (hZ.out.congr (r:=redTo N (i+1) T Bs cost) fun k hk=>by rw [if_pos hk])
         clear hZ
         go_wp2
         go_roundw
         case rel=>exact ⟨i+1,by omega,by go_num,HZ,hbe⟩
         case measure=>simp [intOf];omega
     ·obtain rfl:m=i:=by omega
      go_wp2
      go_ret
      exact ⟨_,Z,rfl,hZ.out,hbe.out⟩
end
end Go.Proofs.YtkljafmdbajfeaaGreatDoor
