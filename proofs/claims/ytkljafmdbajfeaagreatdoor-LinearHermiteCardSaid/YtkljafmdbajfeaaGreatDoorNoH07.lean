/- linear.within, listed, rowed, valid, proper, dot: what they answer. -/
import Derived.Test.YtkljafmdbajfeaaGreatDoorNoH00
import Derived.Test.YtkljafmdbajfeaaGreatDoorNoH06
namespace Go.Proofs.YtkljafmdbajfeaaGreatDoor
set_option linter.unusedVariables false
set_option linter.unusedSimpArgs false
open Go.Lib (hid)
section
open Go.RowKit
def inB (m:Int) (x:Int):Bool:=decide (-m≤x) && decide (x≤m)
def listOk (m:Int) (xs:List Int):Bool:=xs.all (inB m)
def rowOk (n:Nat) (r:List Int):Bool:=decide (r.length=n) && listOk 30 r
def rowsOk (l:List (List Int)) (n:Nat):Bool:=decide (1≤n) && decide (n≤6) && decide (l.length≤6) && l.all (rowOk n)
def progOk (a:List (List Int)) (b c:List Int):Bool:=rowsOk a c.length && decide (b.length=a.length) && listOk 1000 b && listOk 1000 c
theorem listOk_any (m:Int) (xs:List Int):(!xs.any fun x=>!inB m x)=listOk m xs:=by
 unfold listOk;rw [List.not_any_eq_all_not];simp
set_option maxHeartbeats 400000 in
theorem within_calls (n m:Int) (w:World) (h0:0≤m) (h1:m≤4611686018427387904) :
 Calls Tryz.prog 145 #[.int .i64 n,.int .i64 m] w fun e w'=>e=.returned (.bool (inB m n))∧w'=w:=by
 by_cases h : -m≤n
 ·have hh:decide (-m≤n)=true:=decide_eq_true h
  go_enter Tryz.func145,Tryz.ntmps145
  go_wp2
  go_ret
  exact ⟨by simp [inB,h],rfl⟩
 ·have hh:decide (-m≤n)=false:=decide_eq_false h
  go_enter Tryz.func145,Tryz.ntmps145
  go_wp2
  go_ret
  exact ⟨by simp [inB,show ¬ (-m≤n) by omega],rfl⟩
set_option maxHeartbeats 400000 in
theorem listed1_calls (n m:Int) (b:Nat) (w:World) (h0:0≤m) (h1:m≤4611686018427387904) (hb:w.cell? ⟨b,0,none⟩=some (.int .i64 m)) :
 Calls Tryz.prog 144 #[.int .i64 n,.pointer (some ⟨b,0,none⟩)] w fun e w'=>e=.returned (.bool (!inB m n))∧w'=w:=by
 go_enter Tryz.func144,Tryz.ntmps144
 go_wp2_with (go_at_call 145;refine (within_calls n m _ h0 h1).mono ?_;rintro e w' ⟨rfl,rfl⟩)
 go_ret
 exact ⟨rfl,rfl⟩
set_option maxHeartbeats 400000 in
theorem listed_calls (A:Option Addr) (c:Nat) (xs:List Int) (m:Int) (w:World) (hm:xs.length≤maxLen) (h0:0≤m) (h1:m≤4611686018427387904) (hA:Ints w A xs) :
 Calls Tryz.prog 88 #[.slice A xs.length c,.int .i64 m] w fun e w'=>e=.returned (.bool (listOk m xs))∧Below w.heap.size w w':=by
 have hT:∀ w0:World,w.heap.size<w0.heap.size→w0.cell? ⟨w.heap.size,0,none⟩=some (.int .i64 m)→Tells 144 #[.pointer (some ⟨w.heap.size,0,none⟩)] (fun x=>!inB m x) w0 xs:=by
  intro w0 hs hw0
  refine ⟨fun _ _=>by kernel_rfl,fun x _ w1 hb=>(listed1_calls x m w.heap.size w1 h0 h1 ?_).mono fun e w2 ⟨he,hw⟩=>⟨he,by rw [hw];exact Below.refl _ _⟩⟩
  rw [hb.cell (p:=⟨w.heap.size,0,none⟩) hs];exact hw0
 go_enter Tryz.func88,Tryz.ntmps88
 go_wp2_with (go_at_call 98;refine (containsFunc_int _ _ (fun x=>!inB m x) _ _ xs _ hm (hA.ext ((Below.refl _ _).alloc (Nat.le_refl _) _)) (hT _ (by simp) (by go_simp))).mono ?_;rintro e w' ⟨rfl,hb⟩)
 go_ret
 exact ⟨by simp only [←listOk_any m xs];rfl,((Below.refl _ _).alloc (Nat.le_refl _) _).trans (hb.mono (by simp))⟩
set_option maxHeartbeats 400000 in
theorem rowed1_calls (A:Option Addr) (c:Nat) (r:List Int) (n b:Nat) (w:World) (hm:r.length≤maxLen) (hA:Ints w A r) (hb:w.cell? ⟨b,0,none⟩=some (.int .i64 n)) :
 Calls Tryz.prog 137 #[.slice A r.length c,.pointer (some ⟨b,0,none⟩)] w fun e w'=>e=.returned (.bool (!rowOk n r))∧Below w.heap.size w w':=by
 by_cases h:r.length=n
 ·have h1:((r.length:Int) == (n:Int))=true:=by simp [h]
  have h2:((r.length:Int) != (n:Int))=false:=by simp [h]
  have H:=hid h;clear h
  have hm':=hm;unfold maxLen at hm'
  go_enter Tryz.func137,Tryz.ntmps137
  go_wp2_with (go_at_call 88;refine (listed_calls _ _ r 30 _ hm (by omega) (by omega) hA).mono ?_;rintro e w' ⟨rfl,hb2⟩)
  go_ret
  exact ⟨by simp [rowOk,H.out],hb2⟩
 ·have h1:((r.length:Int) == (n:Int))=false:=by simp;omega
  have h2:((r.length:Int) != (n:Int))=true:=by simp;omega
  have H:=hid h;clear h
  go_enter Tryz.func137,Tryz.ntmps137
  go_wp2
  go_ret
  exact ⟨by simp [rowOk,H.out],Below.refl _ _⟩
set_option maxHeartbeats 400000 in
theorem rowed_calls (A:Option Addr) (c:Nat) (l:List (List Int)) (n:Nat) (w:World) (hm:l.length≤maxLen) (hr:∀ r∈l,r.length≤maxLen) (hn:n≤maxLen) (hA:Grid w A l) :
 Calls Tryz.prog 80 #[.slice A l.length c,.int .i64 n] w fun e w'=>e=.returned (.bool (rowsOk l n))∧Below w.heap.size w w':=by
 have hn':=hn;unfold maxLen at hn'
 have hm':=hm;unfold maxLen at hm'
 have hT:∀ w0:World,w.heap.size<w0.heap.size→w0.cell? ⟨w.heap.size,0,none⟩=some (.int .i64 n)→TellsR 137 #[.pointer (some ⟨w.heap.size,0,none⟩)] (fun x=>!rowOk n x) w0 l:=by
  intro w0 hs hw0
  refine ⟨fun _ _=>by kernel_rfl,fun x hx A c w1 hb hx1=>rowed1_calls A c x n w.heap.size w1 (hr x hx) hx1 ?_⟩
  rw [hb.cell (p:=⟨w.heap.size,0,none⟩) hs];exact hw0
 by_cases h1:1≤n
 ·have d1:decide (1≤(n:Int))=true:=by simp;omega
  by_cases h2:n≤6
  ·have d2:decide ((n:Int)≤6)=true:=by simp;omega
   by_cases h3:l.length≤6
   ·have d3:decide ((l.length:Int)≤6)=true:=by simp;omega
    go_enter Tryz.func80,Tryz.ntmps80
    go_wp2_with (go_at_call 112;refine (containsFunc_row _ _ (fun x=>!rowOk n x) _ _ l _ hm (hA.ext ((Below.refl _ _).alloc (Nat.le_refl _) _)) (hT _ (by simp) (by go_simp))).mono ?_;rintro e w' ⟨rfl,hb⟩)
    go_ret
    exact ⟨by simp [rowsOk,h1,h2,h3,List.not_any_eq_all_not],((Below.refl _ _).alloc (Nat.le_refl _) _).trans (hb.mono (by simp))⟩
   ·have d3:decide ((l.length:Int)≤6)=false:=by simp;omega
    go_enter Tryz.func80,Tryz.ntmps80
    go_wp2
    go_ret
    exact ⟨by simp [rowsOk,h3],((Below.refl _ _).alloc (Nat.le_refl _) _)⟩
  ·have d2:decide ((n:Int)≤6)=false:=by simp;omega
   go_enter Tryz.func80,Tryz.ntmps80
   go_wp2
   go_ret
   exact ⟨by simp [rowsOk,h2],((Below.refl _ _).alloc (Nat.le_refl _) _)⟩
 ·have d1:decide (1≤(n:Int))=false:=by simp;omega
  go_enter Tryz.func80,Tryz.ntmps80
  go_wp2
  go_ret
  exact ⟨by simp [rowsOk,h1],((Below.refl _ _).alloc (Nat.le_refl _) _)⟩
structure Prog3 (w:World) (A B C:Option Addr) (a:List (List Int)) (b c:List Int):Prop where
 ga:Grid w A a
 gb:Ints w B b
 gc:Ints w C c
 la:a.length≤maxLen
 lr:∀ r∈a,r.length≤maxLen
 lb:b.length≤maxLen
 lc:c.length≤maxLen
theorem Prog3.ext {w w':World} {A B C:Option Addr} {a:List (List Int)} {b c:List Int} (h:Prog3 w A B C a b c) (hb:Below w.heap.size w w'):Prog3 w' A B C a b c :=
 ⟨h.ga.ext hb,h.gb.ext hb,h.gc.ext hb,h.la,h.lr,h.lb,h.lc⟩
set_option maxHeartbeats 400000 in
theorem valid_calls (A B C:Option Addr) (ca cb cc:Nat) (a:List (List Int)) (b c:List Int) (w:World) (h:Prog3 w A B C a b c) :
 Calls Tryz.prog 96 #[.agg #[.slice A a.length ca,.slice B b.length cb,.slice C c.length cc]] w fun e w'=>e=.returned (.bool (progOk a b c))∧Below w.heap.size w w':=by
 have hlb:=h.lb;have hla:=h.la;have hlc:=h.lc;unfold maxLen at hlb hla hlc
 have hb0:∀ o,Below w.heap.size w (w.alloc o):=fun o=>(Below.refl _ _).alloc (Nat.le_refl _) _
 cases h1:rowsOk a c.length
 ·go_enter Tryz.func96,Tryz.ntmps96
  go_wp2_with (go_at_call 80;refine (rowed_calls _ _ a c.length _ h.la h.lr h.lc (h.ga.ext (hb0 _))).mono ?_;rintro e w1 ⟨rfl,hb1⟩)
  go_ret
  exact ⟨by simp [progOk,h1],ext_trans (hb0 _) hb1⟩
 by_cases h2:b.length=a.length
 ·have d2:((b.length:Int) == (a.length:Int))=true:=by simp [h2]
  have H2:=hid h2;clear h2
  cases h3:listOk 1000 b
  ·go_enter Tryz.func96,Tryz.ntmps96
   go_wp2_with fail
   refine (rowed_calls _ _ a c.length _ h.la h.lr h.lc (h.ga.ext (hb0 _))).mono ?_;rintro e w1 ⟨rfl,hb1⟩
   obtain ⟨hc1,hf1⟩:=bcell hb1
   have hx1:=ext_trans (hb0 _) hb1
   go_wp2_with fail
   refine (listed_calls _ _ b 1000 _ h.lb (by omega) (by omega) (h.gb.ext hx1)).mono ?_;rintro e w2 ⟨rfl,hb2⟩
   go_wp2
   go_ret
   exact ⟨by simp [progOk,h3],ext_trans hx1 hb2⟩
  ·go_enter Tryz.func96,Tryz.ntmps96
   go_wp2_with fail
   refine (rowed_calls _ _ a c.length _ h.la h.lr h.lc (h.ga.ext (hb0 _))).mono ?_;rintro e w1 ⟨rfl,hb1⟩
   obtain ⟨hc1,hf1⟩:=bcell hb1
   have hx1:=ext_trans (hb0 _) hb1
   have hz1:=hb1.size
   go_wp2_with fail
   refine (listed_calls _ _ b 1000 _ h.lb (by omega) (by omega) (h.gb.ext hx1)).mono ?_;rintro e w2 ⟨rfl,hb2⟩
   obtain ⟨hc2,hf2⟩:=bcell hb2
   have hx2:=ext_trans hx1 hb2
   have hz:w.heap.size<w1.heap.size:=by simp at hz1;omega
   go_wp2_with fail
   refine (listed_calls _ _ c 1000 _ h.lc (by omega) (by omega) (h.gc.ext hx2)).mono ?_;rintro e w3 ⟨rfl,hb3⟩
   go_wp2
   go_ret
   exact ⟨by simp [progOk,h3,h1,H2.out],ext_trans hx2 hb3⟩
 ·have d2:((b.length:Int) == (a.length:Int))=false:=by simp;omega
  have H2:=hid h2;clear h2
  go_enter Tryz.func96,Tryz.ntmps96
  go_wp2_with fail
  refine (rowed_calls _ _ a c.length _ h.la h.lr h.lc (h.ga.ext (hb0 _))).mono ?_;rintro e w1 ⟨rfl,hb1⟩
  obtain ⟨hc1,hf1⟩:=bcell hb1
  go_wp2
  go_ret
  exact ⟨by simp [progOk,H2.out],ext_trans (hb0 _) hb1⟩
end
section
namespace Lp
def sumTo:Nat→(Nat→Rat)→Rat
 | 0,_=>0
 | n+1,f=>sumTo n f+f n
theorem sumTo_congr {n:Nat} {f g:Nat→Rat} (h:∀ i,i<n→f i=g i):sumTo n f=sumTo n g:=by
 induction n with
 | zero=>rfl
 | succ n ih=>unfold sumTo;rw [ih (fun i hi=>h i (by omega)),h n (by omega)]
theorem sumTo_zero {n:Nat} {f:Nat→Rat} (h:∀ i,i<n→f i=0):sumTo n f=0:=by
 induction n with
 | zero=>rfl
 | succ n ih=>unfold sumTo;rw [ih (fun i hi=>h i (by omega)),h n (by omega)];grind
theorem sumTo_one {n:Nat} {f:Nat→Rat} (k:Nat) (hk:k<n) (h:∀ i,i<n→i≠k→f i=0):sumTo n f=f k:=by
 induction n with
 | zero=>omega
 | succ n ih =>
   unfold sumTo
   by_cases e:k=n
   ·subst e;rw [sumTo_zero fun i hi=>h i (by omega) (by omega)];grind
   ·rw [ih (by omega) (fun i hi hne=>h i (by omega) hne),h n (by omega) (by omega)];grind
theorem sumTo_two {n:Nat} {f:Nat→Rat} (k l:Nat) (hk:k<n) (hl:l<n) (hkl:k<l) (h:∀ i,i<n→i≠k→i≠l→f i=0):sumTo n f=f k+f l:=by
 induction n with
 | zero=>omega
 | succ n ih =>
   unfold sumTo
   by_cases e:l=n
   ·subst e;rw [sumTo_one k (by omega) fun i hi hne=>h i (by omega) hne (by omega)]
   ·rw [ih (by omega) (by omega) (fun i hi h1 h2=>h i (by omega) h1 h2),h n (by omega) (by omega) (by omega)];grind
theorem sumTo_add (n:Nat) (f g:Nat→Rat):sumTo n (fun i=>f i+g i)=sumTo n f+sumTo n g:=by
 induction n with
 | zero=>unfold sumTo;grind
 | succ n ih=>unfold sumTo;rw [ih];grind
theorem sumTo_mul (n:Nat) (c:Rat) (f:Nat→Rat):sumTo n (fun i=>c*f i)=c*sumTo n f:=by
 induction n with
 | zero=>unfold sumTo;grind
 | succ n ih=>unfold sumTo;rw [ih];grind
theorem sumTo_lin (n:Nat) (a b:Rat) (f g:Nat→Rat):sumTo n (fun i=>a*f i+b*g i)=a*sumTo n f+b*sumTo n g:=by
 rw [sumTo_add,sumTo_mul,sumTo_mul]
def sgnAt (c:Nat):Rat:=if c % 2=0 then 1 else -1
theorem sgnAt_succ (c:Nat):sgnAt (c+1) = - sgnAt c:=by
 unfold sgnAt;rcases Nat.mod_two_eq_zero_or_one c with h|h<;>simp [h,Nat.add_mod]
def skip (c j:Nat):Nat:=if j<c then j else j+1
def minor (M:Nat→Nat→Rat) (c:Nat):Nat→Nat→Rat:=fun r j=>M (r+1) (skip c j)
def det:Nat→(Nat→Nat→Rat)→Rat
 | 0,_=>1
 | k+1,M=>sumTo (k+1) fun c=>sgnAt c*(M 0 c*det k (minor M c))
theorem det_congr {k:Nat}:∀ {M N:Nat→Nat→Rat},(∀ r c,r<k→c<k→M r c=N r c)→det k M=det k N:=by
 induction k with
 | zero=>intros;rfl
 | succ k ih =>
   intro M N h
   unfold det
   refine sumTo_congr fun c hc=>?_
   rw [h 0 c (by omega) hc,ih (M:=minor M c) (N:=minor N c) fun r j hr hj=>?_]
   unfold minor skip;refine h _ _ (by omega) ?_;split<;>omega
def setCol (M:Nat→Nat→Rat) (c:Nat) (u:Nat→Rat):Nat→Nat→Rat:=fun r j=>if j=c then u r else M r j
theorem minor_setCol_same (M:Nat→Nat→Rat) (c:Nat) (u:Nat→Rat):minor (setCol M c u) c=minor M c:=by
 funext r j;unfold minor setCol skip;split<;>rw [if_neg (by omega)]
def drop1 (c j:Nat):Nat:=if j<c then j else j-1
theorem minor_setCol_other (M:Nat→Nat→Rat) (c i:Nat) (hne:c≠i) (u:Nat→Rat):minor (setCol M i u) c=setCol (minor M c) (drop1 c i) (fun r=>u (r+1)):=by
 funext r j;unfold minor setCol skip drop1
 by_cases h1:j<c<;>by_cases h2:i<c<;>simp only [h1,h2,if_true,if_false]<;>(congr 1;exact propext ⟨fun h=>by omega,fun h=>by omega⟩)
theorem det_lin {k:Nat}:∀ (M:Nat→Nat→Rat) (i:Nat) (a b:Rat) (u v:Nat→Rat),i<k→det k (setCol M i fun r=>a*u r+b*v r)=a*det k (setCol M i u)+b*det k (setCol M i v):=by
 induction k with
 | zero=>intro M i a b u v h;omega
 | succ k ih =>
   intro M i a b u v h
   unfold det
   rw [←sumTo_lin]
   refine sumTo_congr fun c hc=>?_
   by_cases e:c=i
   ·subst e
    rw [minor_setCol_same,minor_setCol_same,minor_setCol_same]
    have h1:∀ w,setCol M c w 0 c=w 0:=fun w=>by unfold setCol;rw [if_pos rfl]
    rw [h1,h1,h1];grind
   ·rw [minor_setCol_other M c i e,minor_setCol_other M c i e,minor_setCol_other M c i e,ih _ _ _ _ _ _ (by unfold drop1;split<;>omega)]
    have h1:∀ w,setCol M i w 0 c=M 0 c:=fun w=>by unfold setCol;rw [if_neg e]
    rw [h1,h1,h1];grind
theorem det_adj {k:Nat}:∀ (M:Nat→Nat→Rat) (c:Nat),c+1<k→(∀ r,r<k→M r c=M r (c+1))→det k M=0:=by
 induction k with
 | zero=>intro M c h;omega
 | succ k ih =>
   intro M c h he
   unfold det
   rw [sumTo_two c (c+1) (by omega) (by omega) (by omega) fun j hj h1 h2=>?_]
   ·rw [he 0 (by omega),sgnAt_succ]
    have:det k (minor M c)=det k (minor M (c+1)):=det_congr fun r j hr hj=>by
     unfold minor skip
     by_cases e1:j<c
     ·rw [if_pos e1,if_pos (by omega)]
     ·by_cases e2:j=c
      ·subst e2;rw [if_neg (by omega),if_pos (by omega)];exact (he (r+1) (by omega)).symm
      ·rw [if_neg e1,if_neg (by omega)]
    rw [this];grind
   ·have:det k (minor M j)=0:=by
     refine ih (minor M j) (if c<j then c else c-1) (by split<;>omega) fun r hr=>?_
     unfold minor skip
     by_cases e:c<j
     ·rw [if_pos e,if_pos e,if_pos (by omega)];exact he (r+1) (by omega)
     ·rw [if_neg e,if_neg (by omega),if_neg (by omega)]
      have e1:c-1+1=c:=by omega
      rw [e1];exact he (r+1) (by omega)
    rw [this];grind
def swapAdj (M:Nat→Nat→Rat) (c:Nat):Nat→Nat→Rat:=setCol (setCol M c fun r=>M r (c+1)) (c+1) fun r=>M r c
theorem det_setCol_self {k:Nat} (M:Nat→Nat→Rat) (c:Nat):det k (setCol M c fun r=>M r c)=det k M :=
 det_congr fun r j _ _=>by unfold setCol;split<;>simp_all
theorem det_swap {k:Nat} (M:Nat→Nat→Rat) (c:Nat) (h:c+1<k):det k (swapAdj M c) = - det k M:=by
 let u:=fun r=>M r c
 let v:=fun r=>M r (c+1)
 let D:(Nat→Rat)→(Nat→Rat)→Rat:=fun x y=>det k (setCol (setCol M c x) (c+1) y)
 have comm:∀ x y,setCol (setCol M c x) (c+1) y=setCol (setCol M (c+1) y) c x:=fun x y=>by
  funext r j;unfold setCol;by_cases e:j=c<;>by_cases e2:j=c+1<;>simp [e,e2]
 have l2:∀ x y z,D x (fun r=>1*y r+1*z r)=1*D x y+1*D x z:=fun x y z=>det_lin _ _ _ _ _ _ h
 have l1:∀ x y z,D (fun r=>1*x r+1*y r) z=1*D x z+1*D y z:=fun x y z=>by
  show det k _=1*det k _+1*det k _
  rw [comm,comm,comm];exact det_lin _ _ _ _ _ _ (by omega)
 have z:∀ x,D x x=0:=fun x=>det_adj _ c h fun r hr=>by unfold setCol;simp
 have h0:=z fun r=>1*u r+1*v r
 rw [l1,l2,l2,z,z] at h0
 have e1:D u v=det k M:=det_congr fun r j _ _=>by
  unfold setCol;by_cases e:j=c+1
  ·simp [e,v]
  ·by_cases e2:j=c
   ·simp [e2,u]
   ·simp [e,e2]
 have e2:D v u=det k (swapAdj M c):=rfl
 grind
theorem det_same {k:Nat}:∀ (n:Nat) (M:Nat→Nat→Rat) (a b:Nat),a<b→b<k→b-a=n+1→(∀ r,r<k→M r a=M r b)→det k M=0:=by
 intro n
 induction n with
 | zero=>intro M a b h1 h2 h3 he;have e:b=a+1:=by omega
         subst e;exact det_adj M a h2 he
 | succ n ih =>
   intro M a b h1 h2 h3 he
   obtain ⟨b,rfl⟩:∃ x,b=x+1:=⟨b-1,by omega⟩
   have hs:=det_swap (k:=k) M b h2
   have hz:det k (swapAdj M b)=0:=ih (swapAdj M b) a b (by omega) (by omega) (by omega) fun r hr=>by
    unfold swapAdj setCol;simp only [if_true];rw [if_neg (by omega),if_neg (by omega),if_neg (by omega)];exact he r hr
   grind
theorem det_equal {k:Nat} (M:Nat→Nat→Rat) (a b:Nat) (ha:a<k) (hb:b<k) (hne:a≠b) (he:∀ r,r<k→M r a=M r b):det k M=0:=by
 rcases Nat.lt_or_ge a b with h|h
 ·exact det_same (b-a-1) M a b h hb (by omega) he
 ·exact det_same (a-b-1) M b a (by omega) ha (by omega) fun r hr=>(he r hr).symm
theorem det_sum {k:Nat} (M:Nat→Nat→Rat) (i:Nat) (hi:i<k) (t:Nat→Rat) (U:Nat→Nat→Rat):∀ n,det k (setCol M i fun r=>sumTo n fun l=>t l*U r l)=sumTo n fun l=>t l*det k (setCol M i fun r=>U r l):=by
 intro n
 induction n with
 | zero =>
   have:=det_lin (k:=k) M i 0 0 (fun _=>0) (fun _=>0) hi
   have e:(fun r:Nat=>sumTo 0 fun l=>t l*U r l)=fun r:Nat=>(0:Rat)*(fun _:Nat=>(0:Rat)) r+0*(fun _:Nat=>(0:Rat)) r:=by funext r;unfold sumTo;grind
   rw [e,this];unfold sumTo;grind
 | succ n ih =>
   have:=det_lin (k:=k) M i 1 (t n) (fun r=>sumTo n fun l=>t l*U r l) (fun r=>U r n) hi
   have e:(fun r:Nat=>sumTo (n+1) fun l=>t l*U r l)=fun r:Nat=>1*(fun r=>sumTo n fun l=>t l*U r l) r+t n*(fun r=>U r n) r:=by funext r;simp only [sumTo];grind
   rw [e,this,ih];simp only [sumTo];grind
theorem cramer {k:Nat} (M:Nat→Nat→Rat) (t c:Nat→Rat) (h:∀ r,r<k→c r=sumTo k fun l=>t l*M r l) (i:Nat) (hi:i<k):det k (setCol M i c)=t i*det k M:=by
 have h1:det k (setCol M i c)=det k (setCol M i fun r=>sumTo k fun l=>t l*M r l):=det_congr fun r j hr _=>by unfold setCol;split<;>simp [h r hr]
 rw [h1,det_sum M i hi t M k,sumTo_one i hi fun l hl hne=>?_]
 ·rw [det_setCol_self]
 ·rw [det_equal _ l i hl hi hne fun r hr=>by unfold setCol;rw [if_neg hne,if_pos rfl]];grind
theorem det_one (k:Nat):det k (fun r c=>if r=c then 1 else 0)=1:=by
 induction k with
 | zero=>rfl
 | succ k ih =>
   unfold det
   rw [sumTo_one 0 (by omega) fun c hc hne=>by
    have:(0:Nat)≠c:=by omega
    simp only [this,if_false];grind]
   have:det k (minor (fun r c=>if r=c then (1:Rat) else 0) 0)=1:=by
    refine Eq.trans (det_congr fun r c _ _=>?_) ih
    unfold minor skip;simp
   rw [this];unfold sgnAt;simp
def IsI (x:Rat) (b:Nat):Prop:=∃ z:Int,x=(z:Rat)∧z.natAbs≤b
theorem IsI.mono {x:Rat} {b c:Nat} (h:IsI x b) (hc:b≤c):IsI x c:=by obtain ⟨z,h1,h2⟩:=h;exact ⟨z,h1,by omega⟩
theorem IsI.add {x y:Rat} {b c:Nat} (h:IsI x b) (k:IsI y c):IsI (x+y) (b+c):=by
 obtain ⟨z,rfl,h2⟩:=h;obtain ⟨u,rfl,k2⟩:=k;exact ⟨z+u,by rw [Rat.intCast_add],by omega⟩
theorem IsI.mul {x y:Rat} {b c:Nat} (h:IsI x b) (k:IsI y c):IsI (x*y) (b*c):=by
 obtain ⟨z,rfl,h2⟩:=h;obtain ⟨u,rfl,k2⟩:=k;exact ⟨z*u,by rw [Rat.intCast_mul],by rw [Int.natAbs_mul];exact Nat.mul_le_mul h2 k2⟩
theorem IsI.sgn {x:Rat} {b:Nat} (h:IsI x b) (c:Nat):IsI (sgnAt c*x) b:=by
 obtain ⟨z,rfl,h2⟩:=h
 unfold sgnAt;split
 ·exact ⟨z,by grind,h2⟩
 ·exact ⟨-z,by rw [Rat.intCast_neg];grind,by omega⟩
theorem IsI.zero (b:Nat):IsI 0 b:=⟨0,rfl,by omega⟩
theorem IsI.sum {n:Nat} {f:Nat→Rat} {b:Nat} (h:∀ i,i<n→IsI (f i) b):IsI (sumTo n f) (n*b):=by
 induction n with
 | zero=>exact .zero _
 | succ n ih=>unfold sumTo;rw [Nat.succ_mul];exact (ih fun i hi=>h i (by omega)).add (h n (by omega))
def prodTo:Nat→(Nat→Nat)→Nat
 | 0,_=>1
 | n+1,f=>prodTo n f*f n
def fac:Nat→Nat
 | 0=>1
 | n+1=>(n+1)*fac n
theorem prodTo_congr {n:Nat} {f g:Nat→Nat} (h:∀ i,i<n→f i=g i):prodTo n f=prodTo n g:=by
 induction n with
 | zero=>rfl
 | succ n ih=>unfold prodTo;rw [ih (fun i hi=>h i (by omega)),h n (by omega)]
theorem prodTo_skip (B:Nat→Nat):∀ (k c:Nat),c<k+1→B c*prodTo k (fun j=>B (skip c j))=prodTo (k+1) B:=by
 intro k
 induction k with
 | zero=>intro c hc;have:c=0:=by omega
         subst this;simp [prodTo]
 | succ k ih =>
   intro c hc
   by_cases e:c=k+1
   ·subst e
    rw [show prodTo (k+1+1) B=prodTo (k+1) B*B (k+1) from rfl,Nat.mul_comm]
    congr 1
    exact prodTo_congr fun i hi=>by unfold skip;rw [if_pos hi]
   ·rw [show prodTo (k+1) (fun j=>B (skip c j))=prodTo k (fun j=>B (skip c j))*B (skip c k) from rfl,←Nat.mul_assoc,ih c (by omega)]
    unfold skip;rw [if_neg (by omega)];rfl
theorem det_int {k:Nat}:∀ {M:Nat→Nat→Rat} {B:Nat→Nat},(∀ r c,r<k→c<k→IsI (M r c) (B c))→IsI (det k M) (fac k*prodTo k B):=by
 induction k with
 | zero=>intro M B h;exact ⟨1,rfl,by simp [fac,prodTo]⟩
 | succ k ih =>
   intro M B h
   unfold det
   have e:fac (k+1)*prodTo (k+1) B=(k+1)*(fac k*prodTo (k+1) B):=by rw [show fac (k+1)=(k+1)*fac k from rfl,Nat.mul_assoc]
   rw [e]
   refine IsI.sum fun c hc=>?_
   refine IsI.sgn ?_ c
   have h1:=(h 0 c (by omega) hc).mul (ih (M:=minor M c) (B:=fun j=>B (skip c j)) fun r j hr hj=>h (r+1) (skip c j) (by omega) (by unfold skip;split<;>omega))
   refine h1.mono ?_
   rw [←prodTo_skip B k c hc,Nat.mul_left_comm];exact Nat.le_refl _
end Lp
end
section
namespace Lp
theorem sumTo_sub (n:Nat) (f g:Nat→Rat):sumTo n (fun i=>f i-g i)=sumTo n f-sumTo n g:=by
 induction n with
 | zero=>unfold sumTo;grind
 | succ n ih=>unfold sumTo;rw [ih];grind
theorem sumTo_mulr (n:Nat) (c:Rat) (f:Nat→Rat):sumTo n (fun i=>f i*c)=sumTo n f*c:=by
 induction n with
 | zero=>unfold sumTo;grind
 | succ n ih=>unfold sumTo;rw [ih];grind
theorem sumTo_comm (n m:Nat) (f:Nat→Nat→Rat):sumTo n (fun i=>sumTo m fun j=>f i j)=sumTo m fun j=>sumTo n fun i=>f i j:=by
 induction n with
 | zero=>exact (sumTo_zero fun _ _=>rfl).symm
 | succ n ih=>simp only [sumTo];rw [ih,sumTo_add]
theorem sumTo_nonneg {n:Nat} {f:Nat→Rat} (h:∀ i,i<n→0≤f i):0≤sumTo n f:=by
 induction n with
 | zero=>unfold sumTo;grind
 | succ n ih=>unfold sumTo;have:=ih (fun i hi=>h i (by omega));have:=h n (by omega);grind
theorem sumTo_split {n:Nat} (f:Nat→Rat) (k:Nat) (hk:k<n):sumTo n f=f k+sumTo n (fun i=>if i=k then 0 else f i):=by
 have h1:sumTo n (fun i=>if i=k then f i else 0)=f k:=by
  rw [sumTo_one k hk fun i hi hne=>by rw [if_neg hne]];rw [if_pos rfl]
 rw [←h1,←sumTo_add]
 exact sumTo_congr fun i hi=>by split<;>grind
theorem sumTo_eq_zero {n:Nat} {f:Nat→Rat} (h:∀ i,i<n→0≤f i) (hs:sumTo n f=0):∀ i,i<n→f i=0:=by
 induction n with
 | zero=>intro i hi;omega
 | succ n ih =>
   unfold sumTo at hs
   have h1:=sumTo_nonneg (fun i hi=>h i (by omega):∀ i,i<n→0≤f i)
   have h2:=h n (by omega)
   intro i hi
   by_cases e:i=n
   ·subst e;grind
   ·exact ih (fun i hi=>h i (by omega)) (by grind) i (by omega)
theorem sumTo_neg_ex {n:Nat} {f:Nat→Rat} (h:sumTo n f<0):∃ i,i<n∧f i<0:=by
 refine Classical.byContradiction fun hn=>?_
 have:=sumTo_nonneg (f:=f) (n:=n) fun i hi=>by
  rcases Classical.em (f i<0) with h2|h2
  ·exact absurd ⟨i,hi,h2⟩ hn
  ·grind
 grind
abbrev Tab:=Nat→Nat→Rat
abbrev Bas:=Nat→Nat
def piv (T:Tab) (i j:Nat):Tab:=fun o k=>if o=i then T i k*(1 / T i j) else T o k-T o j*(T i k*(1 / T i j))
def pivB (B:Bas) (i j:Nat):Bas:=fun o=>if o=i then j else B o
def cols (M:Tab) (B:Bas):Tab:=fun r c=>M r (B c)
structure Tb (M:Tab) (m N:Nat) (T:Tab) (B:Bas):Prop where
 lt:∀ i,i<m→B i<N
 unit:∀ i k,i<m→k<m→T k (B i)=if k=i then 1 else 0
 rows:∀ r j,r<m→j≤N→M r j=sumTo m fun i=>T i j*M r (B i)
 det:det m (cols M B)≠0
variable {M T:Tab} {m N:Nat} {B:Bas}
theorem Tb.cramer (h:Tb M m N T B) {i j:Nat} (hi:i<m) (hj:j≤N):Lp.det m (setCol (cols M B) i fun r=>M r j)=T i j*Lp.det m (cols M B) :=
 Lp.cramer (cols M B) (fun l=>T l j) (fun r=>M r j) (fun r hr=>h.rows r j hr hj) i hi
theorem Tb.cols_pivB (i j:Nat):cols M (pivB B i j)=setCol (cols M B) i fun r=>M r j:=by
 funext r c;unfold cols pivB setCol;split<;>rfl
theorem Tb.pivot (h:Tb M m N T B) {i j:Nat} (hi:i<m) (hj:j<N) (hp:T i j≠0):Tb M m N (piv T i j) (pivB B i j):=by
 refine ⟨fun o ho=>?_,fun o k ho hk=>?_,fun r l hr hl=>?_,?_⟩
 ·unfold pivB;split
  ·exact hj
  ·exact h.lt o ho
 ·unfold pivB piv
  by_cases e:o=i
  ·subst e
   rw [if_pos rfl]
   by_cases e2:k=o
   ·subst e2;rw [if_pos rfl,if_pos rfl];grind
   ·rw [if_neg e2,if_neg e2];grind
  ·rw [if_neg e]
   have h1:=h.unit o k ho hk
   have h2:=h.unit o i ho hi
   rw [if_neg (fun x=>e x.symm)] at h2
   rw [h2]
   by_cases e2:k=i
   ·subst e2;rw [if_pos rfl,if_neg (fun x=>e x.symm)];grind
   ·rw [if_neg e2,h1];grind
 ·have h1:=h.rows r l hr hl
  have h2:=h.rows r j hr (by omega)
  rw [sumTo_split _ i hi] at h1 h2 ⊢
  have e1:sumTo m (fun o=>if o=i then 0 else piv T i j o l*M r (pivB B i j o))=sumTo m (fun o=>if o=i then 0 else T o l*M r (B o))-(T i l*(1 / T i j))*sumTo m (fun o=>if o=i then 0 else T o j*M r (B o)):=by
   rw [←sumTo_mul,←sumTo_sub]
   refine sumTo_congr fun o ho=>?_
   by_cases e:o=i
   ·rw [if_pos e,if_pos e,if_pos e];grind
   ·rw [if_neg e,if_neg e,if_neg e];unfold piv pivB;rw [if_neg e,if_neg e];grind
  rw [e1]
  have e2:piv T i j i l*M r (pivB B i j i)=T i l*(1 / T i j)*M r j:=by unfold piv pivB;rw [if_pos rfl,if_pos rfl]
  rw [e2,h1]
  rw [h2]
  grind
 ·rw [Tb.cols_pivB,h.cramer (j:=j) hi (by omega)]
  have:=h.det
  grind
theorem Tb.kill (h:Tb M m N T B) {t:Nat→Rat} (ht:∀ r,r<m→sumTo m (fun i=>t i*M r (B i))=0):∀ i,i<m→t i=0:=by
 intro i hi
 have h1:=Lp.cramer (cols M B) t (fun _=>0) (fun r hr=>(ht r hr).symm) i hi
 have h2:Lp.det m (setCol (cols M B) i fun _=>0)=0:=by
  have:=det_lin (k:=m) (cols M B) i 0 0 (fun _=>0) (fun _=>0) hi
  have e:(fun r:Nat=>(0:Rat)*(fun _:Nat=>(0:Rat)) r+0*(fun _:Nat=>(0:Rat)) r)=fun _=>0:=by funext r;grind
  rw [e] at this;rw [this];grind
 rw [h2] at h1
 have:=h.det
 grind
theorem Tb.sol (h:Tb M m N T B) (x:Nat→Rat) (c:Rat):(∀ r,r<m→sumTo N (fun j=>M r j*x j)=c*M r N)↔∀ i,i<m→sumTo N (fun j=>T i j*x j)=c*T i N:=by
 have key:∀ r,r<m→sumTo N (fun j=>M r j*x j)-c*M r N=sumTo m fun i=>(sumTo N (fun j=>T i j*x j)-c*T i N)*M r (B i):=by
  intro r hr
  have e1:sumTo N (fun j=>M r j*x j)=sumTo m fun i=>sumTo N (fun j=>T i j*x j)*M r (B i):=by
   have:sumTo N (fun j=>M r j*x j)=sumTo N fun j=>sumTo m fun i=>T i j*x j*M r (B i):=by
    refine sumTo_congr fun j hj=>?_
    rw [h.rows r j hr (by omega),←sumTo_mulr]
    exact sumTo_congr fun i hi=>by grind
   rw [this,sumTo_comm]
   exact sumTo_congr fun i hi=>sumTo_mulr _ _ _
  rw [e1,h.rows r N hr (Nat.le_refl _),←sumTo_mul,←sumTo_sub]
  exact sumTo_congr fun i hi=>by grind
 constructor
 ·intro hx i hi
  have:=h.kill (t:=fun i=>sumTo N (fun j=>T i j*x j)-c*T i N) (fun r hr=>by rw [←key r hr,hx r hr];grind) i hi
  grind
 ·intro hx r hr
  have h1:=key r hr
  have h2:(sumTo m fun i=>(sumTo N (fun j=>T i j*x j)-c*T i N)*M r (B i))=0:=sumTo_zero fun i hi=>by rw [hx i hi];grind
  rw [h2] at h1
  grind
theorem Tb.one {T':Tab} (h:Tb M m N T B) (k:Tb M m N T' B):∀ i j,i<m→j≤N→T i j=T' i j:=by
 intro i j hi hj
 have:=h.kill (t:=fun i=>T i j-T' i j) (fun r hr=>by
  have e:(sumTo m fun i=>(T i j-T' i j)*M r (B i))=(sumTo m fun i=>T i j*M r (B i))-sumTo m fun i=>T' i j*M r (B i):=by
   rw [←sumTo_sub];exact sumTo_congr fun i hi=>by grind
  rw [e,←h.rows r j hr hj,←k.rows r j hr hj];grind) i hi
 grind
def redc (m:Nat) (T:Tab) (B:Bas) (cost:Nat→Rat) (j:Nat):Rat:=cost j-sumTo m fun i=>cost (B i)*T i j
theorem Tb.redc_basic (h:Tb M m N T B) (cost:Nat→Rat) {i:Nat} (hi:i<m):redc m T B cost (B i)=0:=by
 unfold redc
 rw [sumTo_one i hi fun k hk hne=>by rw [h.unit i k hi hk,if_neg hne];grind]
 rw [h.unit i i hi hi,if_pos rfl];grind
theorem Tb.cost (h:Tb M m N T B) (cost:Nat→Rat) (x:Nat→Rat) (c:Rat) (hx:∀ r,r<m→sumTo N (fun j=>M r j*x j)=c*M r N) :
 sumTo N (fun j=>cost j*x j)=sumTo N (fun j=>redc m T B cost j*x j)+c*sumTo m fun i=>cost (B i)*T i N:=by
 have hs:=(h.sol x c).1 hx
 have e1:sumTo N (fun j=>redc m T B cost j*x j)=sumTo N (fun j=>cost j*x j)-sumTo m fun i=>cost (B i)*(c*T i N):=by
  have e2:(sumTo m fun i=>cost (B i)*(c*T i N))=sumTo N fun j=>(sumTo m fun i=>cost (B i)*T i j)*x j:=by
   have e3:(sumTo m fun i=>cost (B i)*(c*T i N))=sumTo m fun i=>sumTo N fun j=>cost (B i)*T i j*x j:=by
    refine sumTo_congr fun i hi=>?_
    rw [←hs i hi,←sumTo_mul]
    exact sumTo_congr fun j hj=>by grind
   rw [e3,sumTo_comm]
   exact sumTo_congr fun j hj=>sumTo_mulr _ _ _
  rw [e2,←sumTo_sub]
  exact sumTo_congr fun j hj=>by unfold redc;grind
 rw [e1,←sumTo_mul]
 have:(sumTo m fun i=>cost (B i)*(c*T i N))=sumTo m fun i=>c*(cost (B i)*T i N):=sumTo_congr fun i hi=>by grind
 rw [this];grind
def firstTo:Nat→(Nat→Bool)→Option Nat
 | 0,_=>none
 | n+1,p=>match firstTo n p with
   | some i=>some i
   | none=>if p n then some n else none
theorem firstTo_some {n:Nat} {p:Nat→Bool} {i:Nat} (h:firstTo n p=some i):i<n∧p i=true∧∀ j,j<i→p j=false:=by
 induction n with
 | zero=>cases h
 | succ n ih =>
   unfold firstTo at h
   cases e:firstTo n p with
   | some k=>rw [e] at h;cases h;have:=ih e;exact ⟨by omega,this.2⟩
   | none =>
     rw [e] at h
     by_cases hp:p n
     ·simp [hp] at h;subst h
      refine ⟨by omega,hp,?_⟩
      have:∀ n,firstTo n p=none→∀ j,j<n→p j=false:=by
       intro n
       induction n with
       | zero=>intro _ j hj;omega
       | succ n ih2 =>
         intro e j hj
         unfold firstTo at e
         cases e2:firstTo n p with
         | some k=>rw [e2] at e;cases e
         | none =>
           rw [e2] at e
           by_cases e3:j=n
           ·subst e3;cases e4:p j
            ·rfl
            ·simp [e4] at e
           ·exact ih2 e2 j (by omega)
      exact this n e
     ·simp [hp] at h
theorem firstTo_none {n:Nat} {p:Nat→Bool} (h:firstTo n p=none):∀ j,j<n→p j=false:=by
 induction n with
 | zero=>intro j hj;omega
 | succ n ih =>
   intro j hj
   unfold firstTo at h
   cases e2:firstTo n p with
   | some k=>rw [e2] at h;cases h
   | none =>
     rw [e2] at h
     by_cases e3:j=n
     ·subst e3;cases e4:p j
      ·rfl
      ·simp [e4] at h
     ·exact ih e2 j (by omega)
def pick (T:Tab) (B:Bas) (N s:Nat):Nat→Option (Nat × Rat)
 | 0=>none
 | k+1=>if T k s≤0 then pick T B N s k else match pick T B N s k with
   | none=>some (k,T k N / T k s)
   | some (o,l)=>if l<T k N / T k s∨(T k N / T k s=l∧B o<B k) then some (o,l) else some (k,T k N / T k s)
theorem pick_none {s:Nat}:∀ {k:Nat},pick T B N s k=none→∀ i,i<k→T i s≤0:=by
 intro k
 induction k with
 | zero=>intro _ i hi;omega
 | succ k ih =>
   intro h i hi
   unfold pick at h
   by_cases hc:T k s≤0
   ·rw [if_pos hc] at h
    by_cases e:i=k
    ·subst e;exact hc
    ·exact ih h i (by omega)
   ·rw [if_neg hc] at h
    cases e:pick T B N s k with
    | none=>rw [e] at h;cases h
    | some x=>rw [e] at h;obtain ⟨o,l⟩:=x;simp only at h;split at h<;>cases h
theorem pick_some {s:Nat}:∀ {k o:Nat} {l:Rat},pick T B N s k=some (o,l)→o<k∧0<T o s∧l=T o N / T o s∧∀ i,i<k→0<T i s→l≤T i N / T i s∧(T i N / T i s=l→B o≤B i):=by
 intro k
 induction k with
 | zero=>intro o l h;cases h
 | succ k ih =>
   intro o l h
   unfold pick at h
   by_cases hc:T k s≤0
   ·rw [if_pos hc] at h
    obtain ⟨h1,h2,h3,h4⟩:=ih h
    refine ⟨by omega,h2,h3,fun i hi hp=>?_⟩
    by_cases e:i=k
    ·subst e;grind
    ·exact h4 i (by omega) hp
   ·rw [if_neg hc] at h
    cases e:pick T B N s k with
    | none =>
      rw [e] at h;cases h
      refine ⟨by omega,by grind,rfl,fun i hi hp=>?_⟩
      by_cases e2:i=k
      ·subst e2;exact ⟨Rat.le_refl,fun _=>Nat.le_refl _⟩
      ·have:=pick_none e i (by omega);grind
    | some x =>
      rw [e] at h;obtain ⟨o',l'⟩:=x
      obtain ⟨h1,h2,h3,h4⟩:=ih e
      simp only at h
      split at h
      ·rename_i hor
       cases h
       refine ⟨by omega,h2,h3,fun i hi hp=>?_⟩
       by_cases e2:i=k
       ·subst e2
        rcases hor with h5|⟨h5,h6⟩
        ·exact ⟨by grind,fun h7=>by grind⟩
        ·exact ⟨by grind,fun _=>by omega⟩
       ·exact h4 i (by omega) hp
      ·rename_i hor
       cases h
       have h5:¬ l'<T k N / T k s:=fun h=>hor (.inl h)
       have h6:T k N / T k s=l'→B k≤B o':=fun h=>by
        rcases Nat.lt_or_ge (B o') (B k) with h7|h7
        ·exact absurd (.inr ⟨h,h7⟩) hor
        ·exact h7
       refine ⟨by omega,by grind,rfl,fun i hi hp=>?_⟩
       by_cases e2:i=k
       ·subst e2;exact ⟨Rat.le_refl,fun _=>Nat.le_refl _⟩
       ·obtain ⟨h8,h9⟩:=h4 i (by omega) hp
        refine ⟨by grind,fun h10=>?_⟩
        have h11:T k N / T k s=l':=by grind
        have:=h6 h11
        have:=h9 (by grind)
        omega
end Lp
end
end Go.Proofs.YtkljafmdbajfeaaGreatDoor
