/- The row LinearHermite. -/
import Derived.Test.YtkljafmdbajfeaaGreatDoorNoH38
import Derived.Test.YtkljafmdbajfeaaGreatDoorNoH45
import Derived.Test.YtkljafmdbajfeaaGreatDoorNoH47
import Derived.Test.YtkljafmdbajfeaaGreatDoorNoH49
namespace Go.Proofs.YtkljafmdbajfeaaGreatDoor
set_option linter.unusedVariables false
set_option linter.unusedSimpArgs false
open Go.Lib (hid)
section
open Go.RowKit Go.ChangeMaps
open Lp (Lt V Ech pivots Gen From Least)
def IncG (w:World) (base:Nat) (A:Option Addr) (N n:Nat):Prop :=
 ∀ j,j<N→∃ g gj c,A=some ⟨g,0,none⟩∧w.cell? ⟨g,j,none⟩=some (.slice (some ⟨gj,0,none⟩) n c)∧gj≠g∧base≤gj∧∃ xs:List Int,xs.length=n∧IBlk w gj xs
theorem IncG.ext {w w':World} {base N n:Nat} {A:Option Addr} (h:IncG w base A N n) (hb:Below w.heap.size w w'):IncG w' base A N n:=fun j hj=>by
 obtain ⟨g,gj,c,h1,h2,h3,h4,xs,h5,h6⟩:=h j hj
 exact ⟨g,gj,c,h1,(hb.cell (p:=⟨g,j,none⟩) (cell_lt h2)).trans h2,h3,h4,xs,h5,Blk.ext h6 hb⟩
theorem IncG.put {w:World} {base N n g gi c k:Nat} {i:Nat} {y:Int} (h:IncG w base (some ⟨g,0,none⟩) N n) (hi:i<N) (hc:w.cell? ⟨g,i,none⟩=some (.slice (some ⟨gi,0,none⟩) n c)):IncG (w.setCell ⟨gi,k,none⟩ (.int .i64 y)) base (some ⟨g,0,none⟩) N n:=fun j hj=>by
 obtain ⟨g1,gj,cj,e1,h2,h3,h4,xs,h5,h6⟩:=h j hj
 injection e1 with e1;injection e1 with e1 _ _;subst e1
 obtain ⟨g2,g3,c3,e2,k2,k3,-⟩:=h i hi
 injection e2 with e2;injection e2 with e2 _ _;subst e2
 rw [hc] at k2
 injection k2 with k2;injection k2 with k2 _ _;injection k2 with k2;injection k2 with k2 _ _;subst k2
 refine ⟨g,gj,cj,rfl,by rw [World.cell?_setCell_other (h:=by intro e;injection e with e _ _;exact k3 e)];exact h2,h3,h4,?_⟩
 by_cases e:gj=gi
 ·subst e
  exact ⟨xs.set k y,by rw [List.length_set];exact h5,by have:=Blk.set h6 k (.int .i64 y);rw [←List.map_set] at this;exact this⟩
 ·exact ⟨xs,h5,Blk.other h6 _ _ (by simpa using e)⟩
theorem IncG.none (w:World) (base:Nat) (A:Option Addr) (n:Nat):IncG w base A 0 n:=fun j hj=>by omega
theorem GRow.inc {w:World} {base N n:Nat} {A:Option Addr} {c:Nat} {fs:List V} (h:GRow w base (.slice A N c) N n fs) (h0:0<n):IncG w base A N n:=fun j hj=>by
 obtain ⟨gs,h1,h2,h4,h3⟩:=h.ex
 obtain ⟨hf,hb,hI⟩:=h3 j (by omega)
 have hown:=h2
 obtain ⟨-,h5⟩:=h2
 rcases h5 with ⟨e,e0⟩|⟨g,cap,cur,e,hg,hh,-⟩
 ·omega
 ·injection e with e _ ec
  subst e;subst ec
  have hc:w.cell? ⟨g,j,none⟩=(gs.map fun g=>Value.slice (some ⟨g,0,none⟩) n n)[j]? := hown.cellAt j (by omega)
  refine ⟨g,gs[j]'(by omega),n,rfl,hc.trans (by simp [h1,hj]),fun e=>?_,hb,intsTo fs[j] n n,intsTo_len _ _ _,hI⟩
  have h6:=hI.cell 0 (by rw [intsTo_len];exact h0)
  rw [e] at h6
  obtain ⟨A,m,c,e2⟩:=h4 g rfl 0 _ h6
  simp at e2
def LHermP (l:List (List Int)) (k:Int) (w:World) (e:Ending) (w':World):Prop :=
 ∃ HA hc h er n,e=.returned (.tuple #[.slice HA h.length hc,.int .i64 er])∧Hid (Grid w' HA h)∧Hid (IncG w' w.heap.size HA h.length n)∧Below w.heap.size w w'∧n≤6∧h.length≤6∧(∀ r∈h,r.length=n) ∧
  ((okN l k=false∧er=2∧h=[])∨(okN l k=true∧er=0∧∃ rows,FormOf l k.toNat rows∧h=formL rows k.toNat))
theorem lherm_any (A:Option Addr) (c:Nat) (l:List (List Int)) (k:Int) (w:World) (h:Grid w A l) (hl:l.length≤maxLen) (hr:∀ r∈l,r.length≤maxLen) :
 Calls Tryz.prog 31 #[.slice A l.length c,.int .i64 k] w (LHermP l k w):=by
 have bad:okN l k=false→(Calls Tryz.prog 31 #[.slice A l.length c,.int .i64 k] w fun e w'=>e=.returned (.tuple #[.slice none 0 0,.int .i64 2])∧Below w.heap.size w w')→Calls Tryz.prog 31 #[.slice A l.length c,.int .i64 k] w (LHermP l k w):=fun hk hc =>
  hc.mono fun e w' ⟨h1,h2⟩=>⟨none,0,[],2,0,h1,hid (fun i hi=>by simp at hi),hid (IncG.none _ _ _ _),h2,by omega,by simp,fun r hr=>by simp at hr,.inl ⟨hk,rfl,rfl⟩⟩
 by_cases h1:k<1∨6<k
 ·exact bad (by unfold okN;rcases h1 with h1|h1<;>simp<;>omega) (herm_far A c l k w h1)
 ·obtain ⟨n,rfl⟩:∃ n:Nat,k=n:=⟨k.toNat,by omega⟩
  have hn:(n:Int).toNat=n:=Int.toNat_natCast n
  cases hok:rowsOk l n with
  | false=>exact bad (by unfold okN;rw [hn,hok];simp) (hermite_bad A c n l w h hl (by unfold maxLen;omega) hr hok)
  | true =>
    refine (hermite_good A c n l w h hok).mono ?_
    rintro e w' ⟨v,rows,rfl,hv⟩
    obtain ⟨HA,hc,rfl,-,-,hG⟩:=hv.grid.grid
    have hf:FormOf l n rows:=⟨hok,hv.ech,hv.red,hv.gen⟩
    have hfl:(formL rows n).length=(rowsOf rows n).length:=by unfold formL;simp
    have h6:(formL rows n).length≤6:=by
     rw [hfl];unfold rowsOf;rw [List.length_map];exact pivots_six rows (by omega)
    refine ⟨HA,hc,formL rows n,0,n,by rw [hfl],hid hG,hid (by rw [hfl];exact hv.grid.inc (by omega)),hv.below,by omega,h6,fun r hr=>?_,.inr ⟨by unfold okN;rw [hn,hok];simp;omega,rfl,rows,by rw [hn];exact hf,by rw [hn]⟩⟩
    unfold formL at hr
    obtain ⟨f,-,rfl⟩:=List.mem_map.1 hr
    exact intsTo_len _ _ _
def LRedP (l:List (List Int)) (xs:List Int) (w:World) (e:Ending) (w':World):Prop :=
 ∃ G cg x er,e=.returned (.tuple #[.slice G x.length cg,.int .i64 er])∧Hid (Ints w' G x)∧Below w.heap.size w w'∧x.length≤maxLen ∧
  ((okR l xs=false∧er=2∧x=[])∨(okR l xs=true∧er=0∧∃ rows f,RedV l xs rows f∧x=intsTo f xs.length xs.length))
theorem lred_any (A X:Option Addr) (c cx:Nat) (l:List (List Int)) (xs:List Int) (w:World) (h:Grid w A l) (hX:Ints w X xs) (hl:l.length≤maxLen) (hr:∀ r∈l,r.length≤maxLen) (hm:xs.length≤maxLen) :
 Calls Tryz.prog 34 #[.slice A l.length c,.slice X xs.length cx] w (LRedP l xs w):=by
 cases hok:(rowsOk l xs.length && listOk 1000 xs) with
 | false=>exact (reduceL_bad A X c cx l xs w h hX hl hr hm hok).mono fun e w' ⟨h1,h2⟩=>⟨none,0,[],2,h1,hid (Ints.nil _ _),h2,Nat.zero_le _,.inl ⟨hok,rfl,rfl⟩⟩
 | true =>
   have h2:=hok
   rw [Bool.and_eq_true] at h2
   refine (reduceL_good A X c cx l xs w h hX h2.1 h2.2).mono ?_
   rintro e w' ⟨g,rows,f,rfl,-,hI,hv,hb⟩
   exact ⟨_,_,intsTo f xs.length xs.length,0,by rw [intsTo_len],hid hI.ints,hb,by rw [intsTo_len];exact hm,.inr ⟨hok,rfl,rows,f,hv,rfl⟩⟩
def LMemP (l:List (List Int)) (xs:List Int) (w:World) (e:Ending) (w':World):Prop :=
 ∃ z er,e=.returned (.tuple #[.bool z,.int .i64 er])∧Below w.heap.size w w'∧((okR l xs=false∧er=2∧z=false)∨(okR l xs=true∧er=0∧(z=true↔InL l (nth xs))))
theorem lmem_any (A X:Option Addr) (c cx:Nat) (l:List (List Int)) (xs:List Int) (w:World) (h:Grid w A l) (hX:Ints w X xs) (hl:l.length≤maxLen) (hr:∀ r∈l,r.length≤maxLen) (hm:xs.length≤maxLen) :
 Calls Tryz.prog 37 #[.slice A l.length c,.slice X xs.length cx] w (LMemP l xs w):=by
 cases hok:(rowsOk l xs.length && listOk 1000 xs) with
 | false=>exact (memberL_bad A X c cx l xs w h hX hl hr hm hok).mono fun e w' ⟨h1,h2⟩=>⟨false,2,h1,h2,.inl ⟨hok,rfl,rfl⟩⟩
 | true =>
   have h2:=hok
   rw [Bool.and_eq_true] at h2
   refine (memberL_good A X c cx l xs w h hX h2.1 h2.2).mono ?_
   rintro e w' ⟨rows,f,rfl,hv,hb⟩
   exact ⟨_,0,rfl,hb,.inr ⟨hok,rfl,member_iff hv⟩⟩
theorem herm_eq {l h h':List (List Int)} {k er er':Int} (a:(okN l k=false∧er=2∧h=[])∨(okN l k=true∧er=0∧∃ rows,FormOf l k.toNat rows∧h=formL rows k.toNat))
 (b:(okN l k=false∧er'=2∧h'=[])∨(okN l k=true∧er'=0∧∃ rows,FormOf l k.toNat rows∧h'=formL rows k.toNat)):er'=er∧h'=h:=by
 rcases a with ⟨a1,a2,a3⟩|⟨a1,a2,ra,a3,a4⟩<;>rcases b with ⟨b1,b2,b3⟩|⟨b1,b2,rb,b3,b4⟩
 ·exact ⟨by omega,by rw [a3,b3]⟩
 ·rw [a1] at b1;cases b1
 ·rw [a1] at b1;cases b1
 ·exact ⟨by omega,by rw [a4,b4,form_one b3 a3 fun _=>Iff.rfl]⟩
theorem red_eq {l:List (List Int)} {xs x x':List Int} {er er':Int} (a:(okR l xs=false∧er=2∧x=[])∨(okR l xs=true∧er=0∧∃ rows f,RedV l xs rows f∧x=intsTo f xs.length xs.length))
 (b:(okR l xs=false∧er'=2∧x'=[])∨(okR l xs=true∧er'=0∧∃ rows f,RedV l xs rows f∧x'=intsTo f xs.length xs.length)):er'=er∧x'=x:=by
 rcases a with ⟨a1,a2,a3⟩|⟨a1,a2,ra,fa,a3,a4⟩<;>rcases b with ⟨b1,b2,b3⟩|⟨b1,b2,rb,fb,b3,b4⟩
 ·exact ⟨by omega,by rw [a3,b3]⟩
 ·rw [a1] at b1;cases b1
 ·rw [a1] at b1;cases b1
 ·have e:fb=fa:=(left_eq b3 a3 (okR_in a1).1 rfl).2 (Gen.zero.cast fun i=>by omega)
  exact ⟨by omega,by rw [a4,b4,e]⟩
theorem mem_eq {l:List (List Int)} {xs:List Int} {z z':Bool} {er er':Int} (a:(okR l xs=false∧er=2∧z=false)∨(okR l xs=true∧er=0∧(z=true↔InL l (nth xs))))
 (b:(okR l xs=false∧er'=2∧z'=false)∨(okR l xs=true∧er'=0∧(z'=true↔InL l (nth xs)))):er'=er∧z'=z:=by
 rcases a with ⟨a1,a2,a3⟩|⟨a1,a2,a3⟩<;>rcases b with ⟨b1,b2,b3⟩|⟨b1,b2,b3⟩
 ·exact ⟨by omega,by rw [a3,b3]⟩
 ·rw [a1] at b1;cases b1
 ·rw [a1] at b1;cases b1
 ·exact ⟨by omega,Bool.eq_iff_iff.2 (b3.trans a3.symm)⟩
theorem few_in {a:List (List Int)} {b:List Int} (h:fewB a b=true):a.length≤30∧(∀ r∈a,r.length≤30)∧b.length≤30:=by
 unfold fewB at h
 simp only [Bool.and_eq_true,decide_eq_true_eq,List.all_eq_true,List.mem_range] at h
 exact ⟨h.1.1,nrow_all (P:=fun r=>r.length≤30) h.1.2,h.2⟩
set_option maxRecDepth 100000 in
set_option maxHeartbeats 8000000 in
theorem herm_row (A:Option Addr) (ca:Nat) (a:List (List Int)) (k:Int) (X:Option Addr) (cx:Nat) (v:List Int) (w:World)
 (hA:Grid w A a) (_:a.length≤ca) (la:a.length≤maxLen) (ra:∀ r∈a,r.length≤maxLen) (_:(Lit.int .i64 k).wf=true) (hX:Ints w X v) (_:v.length≤cx) (mx:v.length≤maxLen) (_:InI v) (hT:TabOk 0 costsO w) :
 Calls Tryz.prog 5 #[.slice A a.length ca,.int .i64 k,.slice X v.length cx] w fun e w'=>e=.returned (.bool true)∧Below w.heap.size w w':=by
 have q1:=few_calls A X ca cx a v w hA la ra mx
 have HA:=hid hA;have HX:=hid hX;have HT:=hid hT
 have LA:=hid la;have RA:=hid ra;have MX:=hid mx
 have HAL0:=hid (alive_calls w hT)
 clear hA hX hT la ra mx
 cases hf:fewB a v with
 | false =>
   rw [hf] at q1
   have H1:=hid q1
   clear q1 hf
   go_enter Tryz.func5,Tryz.ntmps5
   go_wp2_with fail
   refine H1.out.mono ?_;rintro e w1 ⟨rfl,h1⟩
   rw [h1];clear h1
   go_wp2_with fail
   refine HAL0.out.mono ?_;rintro e wz ⟨rfl,hbz⟩
   have HBZ:=hid hbz
   clear hbz
   go_wp2
   go_ret
   exact ⟨rfl,HBZ.out⟩
 | true =>
   rw [hf] at q1
   have H1:=hid q1
   obtain ⟨f1,f2,f3⟩:=few_in hf
   have F2:=hid f2
   have HCP:=hid (copied_calls A ca a w HA.out (by omega) fun r hr=>by have:=f2 r hr;omega)
   clear q1 hf f2
   go_enter Tryz.func5,Tryz.ntmps5
   go_wp2_with fail
   refine H1.out.mono ?_;rintro e w1 ⟨rfl,h1⟩
   rw [h1];clear h1
   go_wp2_with fail
   refine HCP.out.mono ?_;rintro e w1 ⟨v1,rfl,ho1,hb1⟩
   obtain ⟨A1,c1,rfl,hG1⟩:=ho1.grid
   have HG1:=hid hG1;have HB1:=hid hb1
   have HX1:=hid (HX.out.ext hb1)
   have HF3:Hid (v.length≤1000):=hid (by omega)
   clear ho1 hG1 hb1 HCP
   go_wp2_with (at_builtin;go_loud (refine wpList_copyI (base:=w1.heap.size) (g0:=w1.heap.size) (xs:=v) rfl _ _ rfl rfl rfl (World.ownsRow_made w1 #[] 0 (Nat.le_refl _) (Nat.zero_le _) rfl) (HX1.out.ext ((Below.refl _ w1).alloc (Nat.le_refl _) _)) HF3.out (by simp) ?_))
   intro X' cx' w2 hX' _ _ hb2
   have hbb:Below w1.heap.size w1 w2:=((Below.refl _ w1).alloc (Nat.le_refl _) _).trans hb2.out
   have HB2:=hid (HB1.out.trans (hbb.mono HB1.out.size));have HG2:=hid (HG1.out.ext hbb)
   have HHL:=hid (lherm_any A1 c1 a k w2 HG2.out LA.out RA.out)
   clear hb2 hbb HG1 HX1 HB1
   go_wp2_with fail
   refine HHL.out.mono ?_;rintro e w3 ⟨A3,c3,h3,er,n,rfl,hG3,hI3,hb3,hn6,hh6,hr3,alt1⟩
   have HRH:=hid (rherm_any A ca a k w3 (HA.out.ext (HB2.out.trans (hb3.mono HB2.out.size))) LA.out RA.out)
   have HR3:=hid hr3;have HZ3:=hid hb3
   clear hb3 hr3 HHL
   go_wp2_with fail
   refine HRH.out.mono ?_;rintro e w4 ⟨A4,c4,h4,er4,rfl,hG4,hb4,alt2⟩
   obtain ⟨rfl,rfl⟩:=herm_eq alt1 alt2
   have HLS:=hid (lists_calls A3 A4 c3 c4 h4 h4 w4 (hG3.out.ext hb4) hG4.out (by omega) (by omega) (fun r hr=>by rw [HR3.out r hr];unfold maxLen;omega) (fun r hr=>by rw [HR3.out r hr];unfold maxLen;omega))
   rw [decide_eq_true rfl] at HLS
   have HZ4:=hid (HZ3.out.trans (hb4.mono HZ3.out.size));have HI4:=hid (hI3.out.ext hb4)
   clear alt1 alt2 hb4 hG3 hG4 hI3 HRH HR3 HZ3
   go_wp2_with fail
   refine HLS.out.mono ?_;rintro e w5 ⟨rfl,hb5⟩
   have HZ5:=hid (HZ4.out.trans (hb5.mono HZ4.out.size));have HI5:=hid (HI4.out.ext hb5)
   clear hb5 HI4 HZ4 HLS
   go_wp2_with fail
   go_loopw [14] (fun ti wr=>∃ (i:Nat),i≤h4.length∧ti=.int .i64 i∧Hid (IncG wr w2.heap.size A3 h4.length n)∧Hid (Below w2.heap.size w2 wr)) (fun ti _=>h4.length-(intOf ti).toNat)
   case atStart=>exact ⟨0,Nat.zero_le _,rfl,HI5,HZ5⟩
   case round =>
    clear HI5 HZ5
    obtain ⟨wo,hwo⟩:∃ wo,wo=wr:=⟨_,rfl⟩
    subst hwo
    obtain ⟨i,hi,rfl,hI,hbe⟩:=hrel
    by_cases hlt:i<h4.length
    ·have h1:(i:Int)<h4.length:=by omega
     have HLT:=hid hlt
     obtain ⟨g,gi,ci,rfl,p1,p2,p3,xs,p4,p5⟩:=hI.out i hlt
     clear p4 p5
     go_wp2_with fail
     go_loopw [15] (fun tk wr=>∃ (k:Nat),k≤n∧tk=.int .i64 k∧wr.cell? ⟨g,i,none⟩=some (.slice (some ⟨gi,0,none⟩) n ci)∧Hid (IncG wr w2.heap.size (some ⟨g,0,none⟩) h4.length n)∧Hid (Below w2.heap.size w2 wr)) (fun tk _=>n-(intOf tk).toNat)
     case atStart=>exact ⟨0,Nat.zero_le _,rfl,p1,hI,hbe⟩
     case round =>
      obtain ⟨k,hk,rfl,p1,hI,hbe⟩:=hrel
      by_cases hkn:k<n
      ·have k1:(k:Int)<n:=by omega
       obtain ⟨g1,g2,c2,e1,r1,-,-,xs,r2,r3⟩:=hI.out i HLT.out
       injection e1 with e1;injection e1 with e1 _ _;subst e1
       rw [p1] at r1
       injection r1 with r1;injection r1 with r1 _ _;injection r1 with r1;injection r1 with r1 _ _;subst r1
       have d1:wr.cell? ⟨gi,k,none⟩=some (.int .i64 (nth xs k)):=by
        have:=r3.cell k (by omega)
        rw [this,nth_lt (by omega)]
       have d2:wr.frozen? ⟨gi,k,none⟩=false:=Blk.free r3 k
       obtain ⟨y,hy⟩:∃ y,nth xs k=y:=⟨_,rfl⟩
       rw [hy] at d1
       obtain ⟨z,hz⟩:∃ z,IntKind.i64.wrap (y+1)=z:=⟨_,rfl⟩
       have HP:=hid (hI.out.put (k:=k) (y:=z) HLT.out p1)
       have HBE:=hid (hbe.out.setCell (p:=⟨gi,k,none⟩) p3 (.int .i64 z))
       have p1':(wr.setCell ⟨gi,k,none⟩ (.int .i64 z)).cell? ⟨g,i,none⟩=some (.slice (some ⟨gi,0,none⟩) n ci):=by
        rw [World.cell?_setCell_other (h:=by intro e;injection e with e _ _;exact p2 e)];exact p1
       have P1:=hid p1'
       clear r2 r3 hy hI hbe p1'
       go_wp2
       go_roundw
       case rel=>exact ⟨k+1,by omega,by go_num,P1.out,HP,HBE⟩
       case measure=>simp [intOf];omega
      ·obtain rfl:k=n:=by omega
       go_wp2
       go_roundw
       case rel=>exact ⟨i+1,by omega,by go_num,hI,hbe⟩
       case measure=>simp [intOf];omega
    ·obtain rfl:i=h4.length:=by omega
     have HB6:=hid (HB2.out.trans (hbe.out.mono HB2.out.size));have HG6:=hid (HG2.out.ext hbe.out);have HX6:=hid (hX'.out.ext hbe.out)
     have HLR:=hid (lred_any A1 X' c1 cx' a v wo HG6.out HX6.out LA.out RA.out MX.out)
     clear hI hbe HG2 hX' HB2
     go_wp2_with fail
     refine HLR.out.mono ?_;rintro e w6 ⟨G6,cg6,x,er6,rfl,hI6,hb6,hx6,alt1⟩
     have HRR:=hid (rred_any A X ca cx a v w6 (HA.out.ext (HB6.out.trans (hb6.mono HB6.out.size))) (HX.out.ext (HB6.out.trans (hb6.mono HB6.out.size))) LA.out RA.out MX.out)
     have HB7:=hid (HB6.out.trans (hb6.mono HB6.out.size));have HG7:=hid (HG6.out.ext hb6);have HX7:=hid (HX6.out.ext hb6)
     clear hb6 HLR HB6 HG6 HX6
     go_wp2_with fail
     refine HRR.out.mono ?_;rintro e w7 ⟨G7,cg7,x7,er7,rfl,hI7,hb7,alt2⟩
     obtain ⟨rfl,rfl⟩:=red_eq alt1 alt2
     have HSM:=hid (same_calls G6 G7 cg6 cg7 x7 x7 w7 hx6 hx6 (hI6.out.ext hb7) hI7.out)
     rw [show sameB x7 x7=true from decide_eq_true rfl] at HSM
     have HB8:=hid (HB7.out.trans (hb7.mono HB7.out.size));have HG8:=hid (HG7.out.ext hb7);have HX8:=hid (HX7.out.ext hb7)
     clear alt1 alt2 hb7 hI6 hI7 HRR HB7 HG7 HX7
     go_wp2_with fail
     refine HSM.out.mono ?_;rintro e w8 ⟨rfl,m8,e8⟩
     have hb8:Below w7.heap.size w7 w8:=by rw [e8];exact drewN_below _ _
     have HB9:=hid (HB8.out.trans (hb8.mono HB8.out.size));have HG9:=hid (HG8.out.ext hb8);have HX9:=hid (HX8.out.ext hb8)
     have HLM:=hid (lmem_any A1 X' c1 cx' a v w8 HG9.out HX9.out LA.out RA.out MX.out)
     clear hb8 HSM HB8 HG8 HX8 e8
     go_wp2_with fail
     refine HLM.out.mono ?_;rintro e w9 ⟨z,er9,rfl,hb9,alt1⟩
     have hbc:=HB9.out.trans (hb9.mono HB9.out.size)
     have HRM:=hid (rmem_any A X ca cx a v w9 (HA.out.ext hbc) (HX.out.ext hbc) LA.out RA.out MX.out)
     have HB10:=hid hbc;have HG10:=hid (HG9.out.ext hb9);have HX10:=hid (HX9.out.ext hb9)
     clear hb9 hbc HLM HB9 HG9 HX9
     go_wp2_with fail
     refine HRM.out.mono ?_;rintro e w10 ⟨z',er10,rfl,hb10,alt2⟩
     obtain ⟨rfl,rfl⟩:=mem_eq alt1 alt2
     have hbc:=HB10.out.trans (hb10.mono HB10.out.size)
     have HLS:=hid (lists_calls A1 A c1 ca a a w10 (HG10.out.ext hb10) (HA.out.ext hbc) (by omega) (by omega) RA.out RA.out)
     rw [decide_eq_true rfl] at HLS
     have HB11:=hid hbc;have HX11:=hid (HX10.out.ext hb10)
     clear alt1 alt2 hb10 hbc HRM HB10 HG10 HX10
     go_wp2_with fail
     refine HLS.out.mono ?_;rintro e w11 ⟨rfl,hb11⟩
     have hbc:=HB11.out.trans (hb11.mono HB11.out.size)
     have HSM:=hid (same_calls X' X cx' cx v v w11 MX.out MX.out (HX11.out.ext hb11) (HX.out.ext hbc))
     rw [show sameB v v=true from decide_eq_true rfl] at HSM
     have HB12:=hid hbc
     clear hb11 hbc HLS HB11 HX11
     go_wp2_with fail
     refine HSM.out.mono ?_;rintro e w12 ⟨rfl,m12,e12⟩
     have hbc:=HB12.out.trans ((show Below w11.heap.size w11 w12 by rw [e12];exact drewN_below _ _).mono HB12.out.size)
     have HAL:=hid (alive_calls w12 (HT.out.ext hbc))
     have HB13:=hid hbc
     clear hbc HSM HB12 e12
     go_wp2_with fail
     refine HAL.out.mono ?_;rintro e w13 ⟨rfl,hb13⟩
     have HB14:=hid (HB13.out.trans (hb13.mono HB13.out.size))
     clear hb13 HAL HB13
     go_wp2
     go_ret
     exact ⟨rfl,HB14.out⟩
end
end Go.Proofs.YtkljafmdbajfeaaGreatDoor
