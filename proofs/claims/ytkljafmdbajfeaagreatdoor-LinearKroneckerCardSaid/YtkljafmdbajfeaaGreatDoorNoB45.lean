/- exact.System.Refute. -/
import Derived.Test.YtkljafmdbajfeaaGreatDoorNoB16
import Derived.Test.YtkljafmdbajfeaaGreatDoorNoB41
import Derived.Test.YtkljafmdbajfeaaGreatDoorNoB44
namespace Go.Proofs.YtkljafmdbajfeaaGreatDoor
set_option linter.unusedVariables false
set_option linter.unusedSimpArgs false
open Go.Lib (hid)
section
open Go.RowKit Go.ChangeMaps
open Lp (Lt V Ech BdV Bd pivots lv cnt Gen From Least sumZ)
structure OwnQ (w:World) (b n:Nat) (q:Nat→Rat):Prop where
 ptrs:Ptrs w b
 lt:b<w.heap.size
 fr:∀ i,w.frozen? ⟨b,i,none⟩=false
 num:∀ i,i<n→∃ p,w.cell? ⟨b,i,none⟩=some (.pointer (some ⟨p,0,none⟩))∧RatP w p (q i)
theorem RowQ.ownQ {w:World} {B b n:Nat} {P:Nat→Nat} {q:Nat→Rat} (h:RowQ w B b n n P q):OwnQ w b n q :=
 ⟨h.ptrs,h.lt,h.fr,fun i hi=>⟨P i,h.cell i hi,h.num i hi⟩⟩
theorem OwnQ.ext {w w':World} {b n:Nat} {q:Nat→Rat} (h:OwnQ w b n q) (hb:Below w.heap.size w w'):OwnQ w' b n q:=by
 have hs:=hb.block b h.lt
 have hc:∀ o,w'.cell? ⟨b,o,none⟩=w.cell? ⟨b,o,none⟩:=fun o=>World.cell?_of_block (a:=⟨b,o,none⟩) hs
 exact ⟨h.ptrs.same hs,Nat.lt_of_lt_of_le h.lt hb.size,fun i=>(World.frozen?_of_block (a:=⟨b,i,none⟩) hs).trans (h.fr i),fun i hi=>by
  obtain ⟨p,h1,h2⟩:=h.num i hi
  exact ⟨p,by rw [hc];exact h1,h2.ext hb⟩⟩
theorem OwnQ.congr {w:World} {b n:Nat} {q r:Nat→Rat} (h:OwnQ w b n q) (e:∀ i,i<n→q i=r i):OwnQ w b n r :=
 ⟨h.ptrs,h.lt,h.fr,fun i hi=>by rw [←e i hi];exact h.num i hi⟩
theorem OwnQ.set {w:World} {b n i p:Nat} {q:Nat→Rat} {x:Rat} (h:OwnQ w b n q) (hi:i<n) (hp:RatP w p x):OwnQ (w.setCell ⟨b,i,none⟩ (.pointer (some ⟨p,0,none⟩))) b n fun k=>if k=i then x else q k:=by
 have hb:But b w (w.setCell ⟨b,i,none⟩ (.pointer (some ⟨p,0,none⟩))):=(But.refl b w).set i _
 obtain ⟨p0,h0,-⟩:=h.num i hi
 have hsame:=World.cell?_setCell_same w ⟨b,i,none⟩ (.pointer (some ⟨p,0,none⟩)) h0
 have hoth:∀ o,o≠i→(w.setCell ⟨b,i,none⟩ (.pointer (some ⟨p,0,none⟩))).cell? ⟨b,o,none⟩=w.cell? ⟨b,o,none⟩:=fun o ho =>
  World.cell?_setCell_other w ⟨b,i,none⟩ ⟨b,o,none⟩ _ (by intro e;injection e with _ e;exact ho e.symm)
 refine ⟨fun o x e=>?_,Nat.lt_of_lt_of_le h.lt hb.size,fun j=>?_,fun j hj=>?_⟩
 ·by_cases ho:o=i
  ·subst ho;rw [hsame] at e;injection e with e;exact ⟨_,e.symm⟩
  ·rw [hoth o ho] at e;exact h.ptrs o x e
 ·simp only [World.frozen?_setCell];exact h.fr j
 ·by_cases ho:j=i
  ·subst ho;exact ⟨p,hsame,by rw [if_pos rfl];exact hp.butP h.ptrs hb⟩
  ·obtain ⟨p1,h3,h4⟩:=h.num j hj
   exact ⟨p1,by rw [hoth j ho];exact h3,by rw [if_neg ho];exact h4.butP h.ptrs hb⟩
theorem OwnQ.rats {w:World} {b n:Nat} {q:Nat→Rat} (h:OwnQ w b n q) (hn:n≤maxLen):RatsX w (.slice (some ⟨b,0,none⟩) n n) n q :=
 ⟨_,n,rfl,Nat.le_refl _,hn,fun i hi=>by obtain ⟨p,h1,h2⟩:=h.num i hi;exact ⟨b,0,p,rfl,by rw [Nat.zero_add];exact h1,h2⟩⟩
theorem run_makeRats (w:World) (n:Nat) (h:n≤35184372088832) :
 (Instr.makeSlice 81 (.int .i64 n) (.int .i64 n)).run Tryz.prog w=.ok (.slice (some ⟨w.heap.size,0,none⟩) n n) (w.alloc (.cells (nils n).toArray 201 (0,0))):=by
 obtain ⟨i,hi,hz,hs,hb⟩:=info_parts infoRatP
 rw [run_make w 81 201 i (.pointer none) Tryz.underlying81 hi hz .i64 .i64 n n (by omega) (by omega) (by rw [hb];omega) (by omega)]
 simp only [Int.toNat_natCast,hs,Nat.mul_one]
 rw [madeNils]
set_option maxRecDepth 100000 in
set_option maxHeartbeats 2000000 in
theorem rem_calls (p q r:Nat) (x y:Int) (w:World) (hp:IntBlk w p) (hx:BigP w q x) (hy:BigP w r y) (hy0:y≠0) (wx:Wide x) (wy:Wide y) :
 Calls Tryz.prog 177 #[.pointer (some ⟨p,0,none⟩),.pointer (some ⟨q,0,none⟩),.pointer (some ⟨r,0,none⟩)] w fun e w'=>e=.returned (.pointer (some ⟨p,0,none⟩))∧BigP w' p (x.tmod y)∧But p w w':=by
 have pl:=hp.lt
 have hA:Below w.heap.size w (w.alloc (.cells #[.bool false,.slice none 0 0] 196 (0,0))):=(Below.refl _ _).alloc (Nat.le_refl _) _
 have hn2:IntBlk (w.alloc (.cells #[.bool false,.slice none 0 0] 196 (0,0))) w.heap.size:=.of (Blk.new _ [.bool false,.slice none 0 0] _)
 have HC:=hid (quoRem_calls w.heap.size q r p x y _ hn2 (hp.ext hA) (by omega) (hx.ext hA) (hy.ext hA) hy0 wx wy)
 go_enter Tryz.func177,Tryz.ntmps177
 go_wp2_with fail
 refine HC.out.mono ?_;rintro e w3 ⟨rfl,hz,hr,hb⟩
 have hb2:=(But2.pre hA hb).fst (Nat.le_refl _)
 have HR:=hid hr
 clear hz hr hb HC
 go_wp2
 go_ret
 exact ⟨rfl,HR.out,hb2⟩
theorem wide_k0 {z:Int} (h:z.natAbs≤2000000000000000000000000000):Wide z:=Nat.le_trans (big_len (k:=3) (by omega)) (by omega)
theorem numD_wide {y:Nat→Rat} {m i K:Nat} (hi:i<m) (h:Sq K (y i)) (hl:lcmD y m≤524880000000) (hK:K≤90000000):Wide (numD y m i):=by
 have h1:=h.mul (Sq.int (z:=(lcmD y m:Int)) (by omega))
 have e:y i*(((lcmD y m:Nat):Int):Rat)=((numD y m i:Int):Rat):=by rw [Rat.intCast_natCast,numD_eq hi]
 rw [e] at h1
 have h2:=h1.1
 rw [Rat.num_intCast] at h2
 exact Nat.le_trans h2 (by omega)
def RefuteR (F:Nat→V) (m n:Nat) (b:V) (w:World) (e:Ending) (w':World):Prop :=
 (e=.returned (.tuple #[.slice none 0 0,.pointer none,.bool false])∧∃ x,Sol F m n b x) ∨
 ((∀ x,¬ Sol F m n b x)∧∃ g p z d,e=.returned (.tuple #[.slice (some ⟨g,0,none⟩) m m,.pointer (some ⟨p,0,none⟩),.bool true])∧OwnV w' g m m z∧BigP w' p d∧RefOk F m n b z d)
set_option maxRecDepth 100000 in
set_option maxHeartbeats 16000000 in
theorem refuteSys_calls (S m n:Nat) (rc rn:Lt) (F:Nat→V) (b:V) (vb:Value) (w:World) (hS:SysP w S m n rc rn) (hV:SysV F m n rc rn) (hb:VecP w vb m b) (hbd:∀ i,i<m→(b i).natAbs≤1000) (h0:0<n) (hm:m≤6) :
 Calls Tryz.prog 122 #[.pointer (some ⟨S,0,none⟩),vb] w fun e w'=>RefuteR F m n b w e w'∧Below w.heap.size w w':=by
 have n6:=hV.n6
 obtain ⟨N,hN⟩:∃ N,m+n=N:=⟨_,rfl⟩
 have hNk:N≤12:=by omega
 have hN0:0<N:=by omega
 have hmN:m≤N:=by omega
 have hmk:=fun w=>run_makeRats w m (by omega)
 have HSS:=hid (solveSys_calls S m n rc rn F b vb w hS hV hb hbd h0 (by omega))
 obtain ⟨Ab,cb,rfl,-⟩:=id hb
 obtain ⟨LC,MC,LN,MN,hBl,hLC,-⟩:=hS.ex
 have HV:=hid hV;have HB:=hid hb;have HBD:Hid (∀ i,i<m→(b i).natAbs≤1000):=hid hbd;have HBL:=hid hBl;have HLC:=hid hLC;have HN:=hid hN
 clear hV hb hbd hBl hLC hS hN
 go_enter Tryz.func122,Tryz.ntmps122
 go_wp2_with fail
 refine HSS.out.mono ?_;rintro e w1 ⟨hsr,hb1⟩
 have HB1:=hid hb1
 clear HSS hb1
 rcases hsr with ⟨g,cg,x,rfl,-,-,-,-,hsol,-⟩|⟨v0,t,v,rfl,ht,hat,hv0,hnd⟩
 ·have HSOL:=hid hsol
  clear hsol
  go_wp2
  go_ret3
  exact ⟨.inl ⟨rfl,x,HSOL.out⟩,HB1.out⟩
 ·have hno:∀ x,¬ Sol F m n b x:=fun x hx=>by
   obtain ⟨r,hr1,hr2⟩:=hat.goes HV.out hx ht hv0
   exact hnd r hr1 hr2
  have HNO:Hid (∀ x,¬ Sol F m n b x):=hid hno;have HAT:=hid hat;have HV0:=hid hv0;have HND:Hid (∀ r,rc t=some r→¬ r t ∣ v t):=hid hnd
  have k3:=(HBL.out.ext HB1.out).cell 3 (by simp [sysV])
  simp only [sysV,List.getElem_cons_zero,List.getElem_cons_succ,Option.map] at k3
  have hO:=RowQ.made w1 m (fun _=>0) (fun _=>0)
  have hA:Below w1.heap.size w1 (w1.alloc (.cells (nils m).toArray 201 (0,0))):=(Below.refl _ _).alloc (Nat.le_refl _) _
  obtain ⟨yb,hyb⟩:∃ yb,w1.heap.size=yb:=⟨_,rfl⟩
  have HYB:=hid hyb
  rw [hyb] at hO
  have HO:=hid hO;have HA:=hid hA
  have hyw:w1.heap.size≤yb:=by rw [←hyb];exact Nat.le_refl _
  clear hno hat hv0 hnd hO hA hyb
  go_wp2_with fail
  try rw [HYB.out]
  go_loopw [45] (fun ti wq=>∃ (i:Nat) (P:Nat→Nat),i≤m∧ti=.int .i64 i∧Hid (RowQ wq yb yb m i P (fun _=>0))∧Hid (Below w1.heap.size w1 wq)) (fun ti _=>m-(intOf ti).toNat)
  case atStart=>exact ⟨0,fun _=>0,Nat.zero_le _,rfl,HO,HA⟩
  case round =>
   clear HO HA
   obtain ⟨i,P,hi,rfl,hO,hbe⟩:=hrel
   by_cases hli:i<m
   ·have hi1:(i:Int)<m:=by omega
    have hA1:Below wr.heap.size wr (wr.alloc (.cells #[.bool false,.slice none 0 0,.slice none 0 0] 203 (0,0))):=(Below.refl _ _).alloc (Nat.le_refl _) _
    have hO2:=hO.out.ext hA1
    obtain ⟨a5,hc5⟩:=hO2.ex i hli
    have hf5:=hO2.fr i
    have hst:=hO2.put (p:=wr.heap.size) hli (ratZero wr) (Nat.le_of_lt hO.out.lt) (fun k hk e=>by
     have:=(hO.out.num k hk).2.1.lt
     omega)
    have HST:=hid hst;have HB:=hid (hbe.out.trans (hA1.mono hbe.out.size))
    clear hA1 hO2 hst hO hbe
    go_wp2
    go_roundw
    case rel=>exact ⟨i+1,_,by omega,by go_num,HST,hid (HB.out.setCell hyw _)⟩
    case measure=>simp [intOf];omega
   ·obtain rfl:m=i:=by omega
    obtain ⟨w2,hw2⟩:∃ w2,w2=wr:=⟨_,rfl⟩
    subst hw2
    have hbt:=HB1.out.trans (hbe.out.mono HB1.out.size)
    have k1:=(HBL.out.ext hbt).cell 1 (by simp [sysV])
    simp only [sysV,List.getElem_cons_zero,List.getElem_cons_succ,Option.map] at k1
    have l1:=(HLC.out.ext hbt).c1
    have hrow:∃ Ar nr cr,((HLC.out.map.choose t).getD (.slice none 0 0)=.slice Ar nr cr)∧((Ar.isNone=true∧rc t=none)∨(Ar.isNone=false∧∃ r,rc t=some r)):=by
     obtain ⟨hM,hF⟩:=HLC.out.map.choose_spec
     rcases hF t (by omega) with ⟨h1,h2⟩|⟨v,r,h1,h2,h3⟩
     ·exact ⟨none,0,0,by rw [h1];rfl,.inl ⟨rfl,h2⟩⟩
     ·obtain ⟨Ar,cr,rfl,-,-,h4⟩:=id h3
      obtain ⟨b1,o1,p1,rfl,-⟩:=h4 0 (by omega)
      exact ⟨_,_,cr,by rw [h1];rfl,.inr ⟨rfl,r,h2⟩⟩
    have hlk:=(HLC.out.map.choose_spec.1.ext hbt).look t (by omega)
    obtain ⟨Ar,nr,cr,hrw,hrt⟩:=hrow
    rw [hrw] at hlk
    have HRT:=hid hrt;have HBT:=hid hbt
    have hqn:=eqlNilV
    clear hrw hrt hbt k3
    go_upto_if 63 with (fail)
    go_cut [12] (fun s wx=>s=.slice Ar nr cr∧Hid (OwnQ wx yb m fun i=>if i=t∧rc t=none then 1 else 0)∧Hid (Below w1.heap.size w1 wx))
    case first =>
     obtain ⟨bn,hn⟩:∃ bn,Ar.isNone=bn:=⟨_,rfl⟩
     rw [hn]
     cases bn with
     | true =>
       have hrn:rc t=none:=by
        rcases HRT.out with ⟨-,h⟩|⟨h,-⟩
        ·exact h
        ·rw [hn] at h;cases h
       have hO2:=hO.out
       have q1:=hO2.cell t ht
       have ht1:(t:Int)<m:=by omega
       have HSI:=hid (setInt64_calls (P t) 1 w2 (by omega) (by omega) (hO2.num t ht).1)
       have HRN:=hid hrn
       clear hO2 hrn hn
       go_wp2_with fail
       refine HSI.out.mono ?_;rintro e w3 ⟨rfl,hx,hb3⟩
       have hO3:=(hO.out.set ht hx hb3).ownQ
       have HO3:Hid (OwnQ w3 yb m fun i=>if i=t∧rc t=none then 1 else 0):=hid (hO3.congr fun i _=>by
        by_cases e:i=t
        ·rw [if_pos e,if_pos ⟨e,HRN.out⟩];rfl
        ·rw [if_neg e,if_neg (fun h=>e h.1)])
       have HB3:=hid (hbe.out.trans (hb3.below (Nat.le_trans hyw (hO.out.low t ht)) hbe.out.size))
       clear hx hb3 hO3 HSI hO hbe
       go_wp2
       go_meet
       exact ⟨rfl,HO3,HB3⟩
     | false =>
       have hrn:rc t≠none:=fun e=>by
        rcases HRT.out with ⟨h,-⟩|⟨-,r,h⟩
        ·rw [hn] at h;cases h
        ·rw [e] at h;cases h
       have HO3:Hid (OwnQ w2 yb m fun i=>if i=t∧rc t=none then 1 else 0):=hid (hO.out.ownQ.congr fun i _=>by rw [if_neg (fun h=>hrn h.2)])
       clear hn hrn hO
       go_wp2
       go_meet
       exact ⟨rfl,HO3,hbe⟩
    case rest =>
     obtain ⟨rfl,hOC,hbC⟩:=hcut
     have hrs:RefY m rc t (t+1) (fun i=>if i=t∧rc t=none then 1 else 0)∧∀ i,Sq (refK (t+1-(t+1))) (if i=t∧rc t=none then (1:Rat) else 0):=⟨RefY.start m rc t,fun i=>by
      rw [Nat.sub_self]
      have e:(if i=t∧rc t=none then (1:Rat) else 0)=((if i=t∧rc t=none then 1 else 0:Int):Rat):=by split<;>rfl
      rw [e]
      exact Sq.int (by split<;>decide)⟩
     have HRS:=hid hrs
     clear hrs hlk k1 l1 hO hbe HBT hqn
     go_wp2_with fail
     go_loopw [13] (fun tp wq=>∃ (k:Nat) (z:Int) (y:Nat→Rat),k≤t+1∧tp=.int .i64 z∧Hid (z=(k:Int)-1)∧Hid (OwnQ wq yb m y)∧Hid (RefY m rc t k y∧∀ i,Sq (refK (t+1-k)) (y i))∧Hid (Below w1.heap.size w1 wq)) (fun tp _=>(intOf tp+1).toNat)
     case atStart=>exact ⟨t+1,t,_,Nat.le_refl _,rfl,hid (by omega),hOC,HRS,hbC⟩
     case round =>
      clear hOC HRS hbC
      obtain ⟨k,z,y,hk,rfl,hz,hO,hR,hbe⟩:=hrel
      obtain ⟨wo,hwo⟩:∃ wo,wo=wr:=⟨_,rfl⟩
      subst hwo
      by_cases hk0:k=0
      ·subst hk0
       have hz2:=hz.out
       obtain rfl:z = -1:=by omega
       have hq1:¬ ((0:Int) ≤ -1):=by omega
       obtain ⟨D,d1,d2,d3⟩:=hR.out.1.den HV.out ht
       have hden:∀ i,i<m→(y i).den ∣ D:=fun i _=>by obtain ⟨z,hz⟩:=d3 i;exact den_dvd (K:=z.natAbs) ⟨z,hz,Nat.le_refl _⟩
       have hk6:refK (t+1-0)≤1100000:=refK_le (by omega)
       have hl:lcmD y m≤524880000000:=Nat.le_trans (Nat.le_of_dvd d1 (lcmD_dvd hden)) d2
       have HCL:=hid (clearZ_calls _ m D y wo (hO.out.rats (by unfold maxLen;omega)) (by omega) d1 d2 hden (fun i _=>(hR.out.2 i).wn (by omega)))
       have HL:=hid hl;have HDEN:Hid (∀ i,i<m→(y i).den ∣ D):=hid hden
       have HWN:Hid (∀ i,i<m→Wide (numD y m i)):=hid fun i hi=>numD_wide hi (hR.out.2 i) hl (by omega)
       have HD1:=hid d1;have HD2:=hid d2
       obtain ⟨d,hd⟩:∃ d,lcmD y m=d:=⟨_,rfl⟩
       have hdp:0<d:=by rw [←hd];exact lcmD_pos y m
       have hd5:d≤524880000000:=by rw [←hd];exact hl
       have HDD:=hid hd
       have HDP:=hid hdp;have HD5:=hid hd5
       clear hz2 d1 d2 d3 hden hk6 hl hO hd hdp hd5
       go_wp2_with fail
       refine HCL.out.mono ?_;rintro e w3 ⟨g,dp,P,rfl,hZ,hne,hdw,hD,hb3⟩
       rw [HDD.out] at hD
       have HZ:=hid hZ;have HNE:Hid (∀ i,i<m→P i≠dp):=hid hne;have HDB:=hid hD;have HB3:=hid hb3
       have hsz3:=hb3.size
       clear hZ hne hD hb3 HCL
       have hqn:=neqNilV
       rcases HRT.out with ⟨hn,hrn⟩|⟨hn,r,hr⟩
       ·have HRN:=hid hrn
        have hns:∀ i,i<m→(numD y m i).natAbs≤275499014400000000000000:=fun i hi=>by
         unfold numD
         rw [Int.natAbs_mul,Int.natAbs_natCast]
         exact Nat.le_trans (Nat.mul_le_mul (hR.out.1.num_small HV.out ht hrn i) (Nat.le_trans (Nat.div_le_self _ _) HL.out)) (by decide)
        have hnt:numD y m t≠0:=by
         unfold numD
         rw [hR.out.1.top hrn]
         have h1:((1:Rat)).den=1:=rfl
         have h2:((1:Rat)).num=1:=rfl
         rw [h1,h2,Nat.div_one]
         have:=lcmD_pos y m
         omega
        obtain ⟨nm,hnm⟩:∃ nm:Nat→Int,numD y m=nm:=⟨_,rfl⟩
        have HNM:=hid hnm
        rw [hnm] at HZ hns hnt
        have HNS:Hid (∀ i,i<m→(nm i).natAbs≤275499014400000000000000):=hid hns
        have hG0:gcdZ nm m≠0:=gcdZ_pos ht hnt
        have hGle:∀ i,i≤m→gcdZ nm i≤275499014400000000000000:=fun i hi=>gcdZ_le fun k hk=>hns k (by omega)
        have HG0:=hid hG0;have HGLE:Hid (∀ i,i≤m→gcdZ nm i≤275499014400000000000000):=hid hGle
        have HPL:Hid (∀ i,i<m→P i<w3.heap.size):=hid fun i hi=>(HZ.out.num i hi).lt
        have hA3:Below w3.heap.size w3 (w3.alloc (.cells #[.bool false,.slice none 0 0] 196 (0,0))):=(Below.refl _ _).alloc (Nat.le_refl _) _
        obtain ⟨pg,hpg⟩:∃ pg,w3.heap.size=pg:=⟨_,rfl⟩
        have hg0:BigP (w3.alloc (.cells #[.bool false,.slice none 0 0] 196 (0,0))) pg (gcdZ nm 0:Nat):=by rw [←hpg];exact bigZero w3
        have HA3:=hid hA3;have HGZ:=hid hg0;have HPG:=hid hpg
        clear hns hnt hnm hG0 hGle hA3 hg0 hpg hrn HDB HWN HNE
        go_wp2_with fail
        try rw [HPG.out]
        go_loopw [148] (fun ti wq=>∃ (i:Nat),i≤m∧ti=.int .i64 i∧Hid (BigP wq pg (gcdZ nm i:Nat))∧Hid (Below w3.heap.size w3 wq)) (fun ti _=>m-(intOf ti).toNat)
        case atStart=>exact ⟨0,Nat.zero_le _,rfl,HGZ,HA3⟩
        case round =>
         clear HGZ HA3
         obtain ⟨i,hi,rfl,hG,hbq⟩:=hrel
         by_cases hli:i<m
         ·have hi1:(i:Int)<m:=by omega
          have hZ4:=HZ.out.ext hbq.out
          have q1:=hZ4.cell i hli
          have hA4:Below wr.heap.size wr (wr.alloc (.cells #[.bool false,.slice none 0 0] 196 (0,0))):=(Below.refl _ _).alloc (Nat.le_refl _) _
          have hn4:IntBlk (wr.alloc (.cells #[.bool false,.slice none 0 0] 196 (0,0))) wr.heap.size:=IntBlk.of (Blk.new _ [.bool false,.slice none 0 0] _)
          have HAB:=hid (abs_calls wr.heap.size (P i) (nm i) _ hn4 ((hZ4.num i hli).ext hA4))
          have HA4:=hid hA4
          clear hZ4 hA4 hn4
          go_wp2_with fail
          refine HAB.out.mono ?_;rintro e w5 ⟨rfl,hx5,hb5⟩
          have hB5:Below wr.heap.size wr w5:=HA4.out.trans (hb5.below (Nat.le_refl _) HA4.out.size)
          have hg5:=hG.out.ext hB5
          have hgc:=gcdNil_calls pg pg wr.heap.size _ _ w5 hg5.blk hg5 hx5 (wide_k0 (by rw [Int.natAbs_natCast];have:=HGLE.out i hi;omega)) (wide_k0 (by rw [Int.natAbs_natCast];have:=HNS.out i hli;omega))
          rw [Int.natAbs_natCast,Int.natAbs_natCast] at hgc
          have HGC:=hid hgc
          have HB5:=hid hB5
          clear hx5 hb5 hB5 hg5 hgc HAB HA4
          go_wp2_with fail
          refine HGC.out.mono ?_;rintro e w6 ⟨rfl,hx6,hb6⟩
          have HX6:Hid (BigP w6 pg (gcdZ nm (i+1):Nat)):=hid hx6
          have HB6:=hid ((hbq.out.trans (HB5.out.mono hbq.out.size)).trans (hb6.below (by have:=HPG.out;omega) (by have:=hbq.out.size;have:=HB5.out.size;omega)))
          clear hx6 hb6 HGC HB5 hG hbq
          go_wp2
          go_roundw
          case rel=>exact ⟨i+1,by omega,by go_num,HX6,HB6⟩
          case measure=>simp [intOf];omega
         ·obtain rfl:m=i:=by omega
          obtain ⟨w6,hw6⟩:∃ w6,w6=wr:=⟨_,rfl⟩
          subst hw6
          obtain ⟨G,hGG⟩:∃ G,gcdZ nm m=G:=⟨_,rfl⟩
          have HGG:=hid hGG
          rw [hGG] at hG HG0
          have hGk:G≤275499014400000000000000:=by rw [←hGG];exact HGLE.out m (Nat.le_refl _)
          have hzt:∀ i,i<m→((nm i).tdiv (G:Int))*(G:Int)=nm i∧((nm i).tdiv (G:Int)).natAbs≤275499014400000000000000:=fun i hi=>by
           refine ⟨Int.tdiv_mul_cancel (by rw [←hGG];exact gcdZ_dvd nm hi),?_⟩
           rw [Int.natAbs_tdiv]
           exact Nat.le_trans (Nat.div_le_self _ _) (HNS.out i hi)
          obtain ⟨W,hW1,hW2,hW3,hW4⟩:∃ W:Int,(sumZ m fun i=>(nm i).tdiv (G:Int)*b i)=W∧W≠0∧W.natAbs≤2000000000000000000000000000∧∀ j,j<n→(sumZ m fun i=>(nm i).tdiv (G:Int)*F i j)=0:=by
           have h1:=hR.out.1.none_ok HV.out ht hm HBD.out HAT.out HRN.out HV0.out HD1.out HD2.out HDEN.out (g:=(G:Int)) (by have:=HG0.out;omega) (z:=fun i=>(nm i).tdiv (G:Int)) (fun i hi=>by rw [HNM.out];exact (hzt i hi).1)
           exact ⟨_,rfl,h1.2.1,h1.2.2,h1.1⟩
          have HZT:Hid (∀ i,i<m→((nm i).tdiv (G:Int)).natAbs≤275499014400000000000000):=hid fun i hi=>(hzt i hi).2
          have HW1:=hid hW1;have HW2:=hid hW2;have HW3:=hid hW3;have HW4:Hid (∀ j,j<n→(sumZ m fun i=>(nm i).tdiv (G:Int)*F i j)=0):=hid hW4;have HGK:=hid hGk
          have hZ6:=HZ.out.ext hbq.out
          have hB6:=HB3.out.trans (hbq.out.mono hsz3)
          have hA6:Below w6.heap.size w6 (w6.alloc (.cells #[.bool false,.slice none 0 0] 196 (0,0))):=(Below.refl _ _).alloc (Nat.le_refl _) _
          obtain ⟨pw,hpw⟩:∃ pw,w6.heap.size=pw:=⟨_,rfl⟩
          have hgw2:pg<pw:=by rw [←hpw];exact hG.out.lt
          have hw0:BigP (w6.alloc (.cells #[.bool false,.slice none 0 0] 196 (0,0))) pw (sumZ 0 fun i=>(nm i).tdiv (G:Int)*b i):=by rw [←hpw];exact bigZero w6
          have HZ0:Hid (RowZ (w6.alloc (.cells #[.bool false,.slice none 0 0] 196 (0,0))) wo.heap.size g m m P (fun k=>if k<0 then (nm k).tdiv (G:Int) else nm k)):=hid ((hZ6.ext hA6).congr fun k _=>by rw [if_neg (by omega)])
          have HGA:=hid (hG.out.ext hA6);have HWA:=hid hw0;have HBA:=hid (hB6.trans (hA6.mono hB6.size));have HPW:=hid hpw;have HGW2:=hid hgw2
          have hszw:wo.heap.size≤pg:=by rw [←HPG.out];exact hsz3
          have HSZW:=hid hszw
          clear hGG hGk hzt hW1 hW2 hW3 hW4 hZ6 hB6 hA6 hpw hw0 hG hbq HGLE HZ hgw2 hszw
          go_wp2_with fail
          try rw [HPW.out]
          go_loopw [162] (fun ti wq=>∃ (i:Nat),i≤m∧ti=.int .i64 i∧Hid (RowZ wq wo.heap.size g m m P (fun k=>if k<i then (nm k).tdiv (G:Int) else nm k))∧Hid (BigP wq pg (G:Nat))∧Hid (BigP wq pw (sumZ i fun k=>(nm k).tdiv (G:Int)*b k))∧Hid (Below wo.heap.size wo wq)) (fun ti _=>m-(intOf ti).toNat)
          case atStart=>exact ⟨0,Nat.zero_le _,rfl,HZ0,HGA,HWA,HBA⟩
          case round =>
           clear HZ0 HGA HWA HBA
           obtain ⟨i,hi,rfl,hZ,hG,hW,hbq⟩:=hrel
           by_cases hli:i<m
           ·have hi1:(i:Int)<m:=by omega
            have q1:=hZ.out.cell i hli
            have hn1:=hZ.out.num i hli
            rw [if_neg (Nat.lt_irrefl i)] at hn1
            have HQ:=hid (quo_calls (P i) (P i) pg (nm i) (G:Nat) wr hn1.blk hn1 hG.out (by have:=HG0.out;omega) (wide_k0 (by have:=HNS.out i hli;omega)) (wide_k0 (by rw [Int.natAbs_natCast];have:=HGK.out;omega)))
            clear hn1
            go_wp2_with fail
            refine HQ.out.mono ?_;rintro e w7 ⟨rfl,hx7,hb7⟩
            have hbk:=(hZ.out.num i hli).blk
            have hpi:=HPL.out i hli
            have hpg2:=HPG.out
            have hgw3:=HGW2.out
            have hz7:=hZ.out.set hli hx7 hb7
            have HZ7:Hid (RowZ w7 wo.heap.size g m m P (fun k=>if k<i+1 then (nm k).tdiv (G:Int) else nm k)):=hid (hz7.congr fun k _=>by
             by_cases e:k=i
             ·subst e;rw [if_pos rfl,if_pos (by omega)]
             ·rw [if_neg e]
              by_cases e2:k<i
              ·rw [if_pos e2,if_pos (by omega)]
              ·rw [if_neg e2,if_neg (by omega)])
            have HG7:=hid (hG.out.but hbk hb7 (by omega))
            have HW7:=hid (hW.out.but hbk hb7 (by omega))
            have HB7:=hid (hbq.out.trans (hb7.below (hZ.out.low i hli) hbq.out.size))
            have hbt:=HB1.out.trans ((hbe.out.trans (HB7.out.mono hbe.out.size)).mono HB1.out.size)
            have hA7:Below w7.heap.size w7 (w7.alloc (.cells #[.bool false,.slice none 0 0] 196 (0,0))):=(Below.refl _ _).alloc (Nat.le_refl _) _
            have hn7:IntBlk (w7.alloc (.cells #[.bool false,.slice none 0 0] 196 (0,0))) w7.heap.size:=IntBlk.of (Blk.new _ [.bool false,.slice none 0 0] _)
            obtain ⟨b5,o5,p5,rfl,-,q5,hz5⟩:=((HB.out.ext hbt).ext hA7).at hli
            have hzb:=HZT.out i hli
            have hbb:=HBD.out i hli
            have hpb:((nm i).tdiv (G:Int)*b i).natAbs≤275499014400000000000000*1000:=by rw [Int.natAbs_mul];exact Nat.mul_le_mul hzb hbb
            have hsb:(sumZ i fun k=>(nm k).tdiv (G:Int)*b k).natAbs≤6*(275499014400000000000000*1000):=Nat.le_trans (sumZ_abs (K:=275499014400000000000000*1000) fun k hk=>by rw [Int.natAbs_mul];exact Nat.mul_le_mul (HZT.out k (by omega)) (HBD.out k (by omega))) (Nat.mul_le_mul_right _ (by omega))
            have hzi:=HZ7.out.num i hli
            rw [if_pos (by omega)] at hzi
            have HML:=hid (mul_t w7.heap.size (P i) p5 ((nm i).tdiv (G:Int)) (b i) _ hn7 (hzi.ext hA7) hz5 (wide_k0 (by omega)) (wide_k0 (by omega)))
            have HPB:=hid hpb;have HSB:=hid hsb;have HA7:=hid hA7
            clear hx7 hb7 hbk hz7 hbt hA7 hn7 hz5 hzb hbb hpb hsb hzi HQ hZ hG hW hbq hpg2
            go_wp2_with fail
            refine HML.out.mono ?_;rintro e w8 ⟨rfl,hx8,hb8,-⟩
            have hB8:Below w7.heap.size w7 w8:=HA7.out.trans (hb8.below (Nat.le_refl _) HA7.out.size)
            have hw8:=HW7.out.ext hB8
            have HAD:=hid (add_t pw pw w7.heap.size _ _ w8 hw8.blk hw8 hx8 (wide_k0 (by have:=HSB.out;omega)) (wide_k0 (by have:=HPB.out;omega)))
            have HB8:=hid hB8
            clear hx8 hb8 hB8 hw8 HML HA7
            go_wp2_with fail
            refine HAD.out.mono ?_;rintro e w9 ⟨rfl,hx9,hb9,-⟩
            have hbk:=(HW7.out.ext HB8.out).blk
            have hpg2:=HPG.out
            have hwo:wo.heap.size≤pw:=by have:=HSZW.out;omega
            have HZ9:=hid ((HZ7.out.ext HB8.out).other hbk hb9 (fun k hk=>by have:=HPL.out k hk;omega))
            have HG9:=hid ((HG7.out.ext HB8.out).but hbk hb9 (by omega))
            have HX9:Hid (BigP w9 pw (sumZ (i+1) fun k=>(nm k).tdiv (G:Int)*b k)):=hid hx9
            have HB9:=hid ((HB7.out.trans (HB8.out.mono HB7.out.size)).trans (hb9.below hwo (by have:=HB7.out.size;have:=HB8.out.size;omega)))
            clear hx9 hb9 hbk hpg2 HAD HB8 HB7 HW7 HG7 HZ7 q5
            go_wp2
            go_roundw
            case rel=>exact ⟨i+1,by omega,by go_num,HZ9,HG9,HX9,HB9⟩
            case measure=>simp [intOf];omega
           ·obtain rfl:m=i:=by omega
            obtain ⟨w7,hw7⟩:∃ w7,w7=wr:=⟨_,rfl⟩
            subst hw7
            have hw:=hW.out
            rw [HW1.out] at hw
            have HWW:=hid hw
            have HZZ:=hid (hZ.out.congr (r:=fun k=>(nm k).tdiv (G:Int)) fun k hk=>by rw [if_pos hk])
            have HN2:=hid (newInt_calls 2 w7 (by omega) (by omega))
            have hszq:=hbq.out.size
            clear hw hZ hG hW
            go_wp2_with fail
            refine HN2.out.mono ?_;rintro e w8 ⟨pq,rfl,hpq,hx8,hb8⟩
            have HX8:=hid hx8;have HB8:=hid hb8
            clear hx8 hb8 HN2
            go_wp2_with fail
            go_loopg [188] 110 (fun gk _ wq=>∃ (q:Nat),2≤q∧Hid (gk+q=112)∧Hid (BigP wq pq (q:Nat))∧Hid (∀ k:Nat,2≤k→k<q→(k:Int) ∣ W)∧Hid (Below w7.heap.size w7 wq))
            case atStart=>exact ⟨2,Nat.le_refl _,hid rfl,HX8,hid (fun k h1 h2=>by omega),HB8⟩
            case round =>
             clear HX8 HB8
             obtain ⟨q,hq2,hgq,hX,hdv,hbr⟩:=hrel
             have hq101:q≤101:=small_divs HW2.out HW3.out hdv.out
             have hA4:Below wr.heap.size wr (wr.alloc (.cells #[.bool false,.slice none 0 0] 196 (0,0))):=(Below.refl _ _).alloc (Nat.le_refl _) _
             have hn4:IntBlk (wr.alloc (.cells #[.bool false,.slice none 0 0] 196 (0,0))) wr.heap.size:=IntBlk.of (Blk.new _ [.bool false,.slice none 0 0] _)
             have HRM:=hid (rem_calls wr.heap.size pw pq W (q:Nat) _ hn4 ((HWW.out.ext hbr.out).ext hA4) (hX.out.ext hA4) (by omega) (wide_k0 HW3.out) (wide_small (by omega)))
             have HA4:=hid hA4
             clear hA4 hn4
             go_wp2_with fail
             refine HRM.out.mono ?_;rintro e w9 ⟨rfl,hx9,hb9⟩
             have hB9:Below wr.heap.size wr w9:=HA4.out.trans (hb9.below (Nat.le_refl _) HA4.out.size)
             have hsg:=sign_calls wr.heap.size (W.tmod (q:Nat)) w9 hx9
             have HB9:=hid hB9
             clear hx9 hb9 hB9 HRM HA4
             by_cases hm0:W.tmod (q:Nat)=0
             ·rw [sgn_zero hm0] at hsg
              have HSG:=hid hsg
              have HDV:Hid (∀ k:Nat,2≤k→k<q+1→(k:Int) ∣ W):=hid fun k h1 h2=>by
               by_cases e:k=q
               ·subst e;exact Int.dvd_of_tmod_eq_zero hm0
               ·exact hdv.out k h1 (by omega)
              clear hsg hm0 hdv
              go_wp2_with fail
              refine HSG.out.mono ?_;rintro e w10 ⟨rfl,e10⟩;subst e10
              have HNI:=hid (newInt_calls 1 w10 (by omega) (by omega))
              clear HSG
              go_wp2_with fail
              refine HNI.out.mono ?_;rintro e w11 ⟨p1,rfl,hp1,hx11,hb11⟩
              have hX11:=(hX.out.ext HB9.out).ext hb11
              have HAD:=hid (add_t pq pq p1 (q:Nat) 1 w11 hX11.blk hX11 hx11 (wide_small (by omega)) (wide_small (by omega)))
              have HB11:=hid ((hbr.out.trans (HB9.out.mono hbr.out.size)).trans (hb11.mono (by have:=hbr.out.size;have:=HB9.out.size;omega)))
              clear hX11 hx11 hb11 HNI hX hbr HB9
              go_wp2_with fail
              refine HAD.out.mono ?_;rintro e w12 ⟨rfl,hx12,hb12,-⟩
              have HX12:Hid (BigP w12 pq ((q+1:Nat):Int)):=hid hx12
              have HB12:=hid (HB11.out.trans (hb12.below hpq HB11.out.size))
              clear hx12 hb12 HAD HB11
              go_wp2
              have hgg:=hgq.out
              go_roundg (gk-1)
              case measure=>omega
              case rel=>exact ⟨q+1,by omega,hid (by omega),HX12,HDV,HB12⟩
             ·obtain ⟨hs1,-⟩:=sgn_ne hm0
              obtain ⟨sg,hsv⟩:∃ sg,sgnI (W.tmod (q:Nat)) 0=sg:=⟨_,rfl⟩
              rw [hsv] at hsg hs1
              have HSG:=hid hsg;have HM0:=hid hm0
              clear hsg hsv hm0 hdv
              go_wp2_with fail
              refine HSG.out.mono ?_;rintro e w10 ⟨rfl,e10⟩;subst e10
              have hB10:=hbr.out.trans (HB9.out.mono hbr.out.size)
              have HZ10:=hid (HZZ.out.ext hB10);have HX10:=hid (hX.out.ext HB9.out);have HB10:=hid (hbq.out.trans (hB10.mono hszq))
              have HPQ:Hid (∀ i,i<m→P i≠pq):=hid fun i hi e=>by
               have:=HPL.out i hi
               have h3:=(HZZ.out.num i hi).lt
               omega
              clear HSG hB10 hX hbr HB9
              go_wp2_with fail
              go_loopw [195] (fun ti wq=>∃ (i:Nat),i≤m∧ti=.int .i64 i∧Hid (RowZ wq wo.heap.size g m m P (fun k=>if k<i then (nm k).tdiv (G:Int) % (q:Int) else (nm k).tdiv (G:Int)))∧Hid (BigP wq pq (q:Nat))∧Hid (Below wo.heap.size wo wq)) (fun ti _=>m-(intOf ti).toNat)
              case atStart=>exact ⟨0,Nat.zero_le _,rfl,hid (HZ10.out.congr fun k _=>by rw [if_neg (by omega)]),HX10,HB10⟩
              case round =>
               clear HZ10 HX10 HB10
               obtain ⟨i,hi,rfl,hZ,hD,hbs⟩:=hrel
               by_cases hli:i<m
               ·have hi1:(i:Int)<m:=by omega
                have q1:=hZ.out.cell i hli
                have hn1:=hZ.out.num i hli
                rw [if_neg (Nat.lt_irrefl i)] at hn1
                have HMO:=hid (mod_calls (P i) (P i) pq ((nm i).tdiv (G:Int)) (q:Nat) wr hn1.blk hn1 hD.out (by omega) (wide_k0 (by have:=HZT.out i hli;omega)) (wide_small (by omega)))
                clear hn1
                go_wp2_with fail
                refine HMO.out.mono ?_;rintro e w4 ⟨rfl,hx4,hb4⟩
                have hz4:=hZ.out.set hli hx4 hb4
                have HZ4:Hid (RowZ w4 wo.heap.size g m m P (fun k=>if k<i+1 then (nm k).tdiv (G:Int) % (q:Int) else (nm k).tdiv (G:Int))):=hid (hz4.congr fun k _=>by
                 by_cases e:k=i
                 ·subst e;rw [if_pos rfl,if_pos (by omega)]
                 ·rw [if_neg e]
                  by_cases e2:k<i
                  ·rw [if_pos e2,if_pos (by omega)]
                  ·rw [if_neg e2,if_neg (by omega)])
                have HD4:=hid (hD.out.but (hZ.out.num i hli).blk hb4 (fun e=>HPQ.out i hli e.symm))
                have HB4:=hid (hbs.out.trans (hb4.below (hZ.out.low i hli) hbs.out.size))
                clear hx4 hb4 hz4 hZ hD hbs HMO q1
                go_wp2
                go_roundw
                case rel=>exact ⟨i+1,by omega,by go_num,HZ4,HD4,HB4⟩
                case measure=>simp [intOf];omega
               ·obtain rfl:m=i:=by omega
                have hbt:=HB1.out.trans ((hbe.out.trans (hbs.out.mono hbe.out.size)).mono HB1.out.size)
                have HBT:=hid hbt
                have HOW:=hid (hZ.out.own.congr (g:=fun k=>(nm k).tdiv (G:Int) % (q:Int)) fun k hk=>by rw [if_pos hk])
                have hok:=mod_ok (F:=F) (m:=m) (n:=n) (b:=b) (z:=fun k=>(nm k).tdiv (G:Int)) hq2 hq101 HW4.out (by rw [HW1.out];exact fun h=>HM0.out (Int.tmod_eq_zero_of_dvd h))
                have HOK:=hid hok
                clear hbt hok hZ hbs
                go_wp2
                go_ret3
                exact ⟨.inr ⟨HNO.out,g,pq,_,_,rfl,HOW.out,hD.out,HOK.out⟩,HBT.out⟩
       ·have HRR:=hid hr
        clear hr
        go_wp2_with fail
        go_loopw [134] (fun ti wq=>∃ (i:Nat),i≤m∧ti=.int .i64 i∧Hid (RowZ wq wo.heap.size g m m P (fun k=>if k<i then numD y m k % (d:Int) else numD y m k))∧Hid (BigP wq dp (d:Nat))∧Hid (Below wo.heap.size wo wq)) (fun ti _=>m-(intOf ti).toNat)
        case atStart=>exact ⟨0,Nat.zero_le _,rfl,hid (HZ.out.congr fun k _=>by rw [if_neg (by omega)]),HDB,HB3⟩
        case round =>
         obtain ⟨i,hi,rfl,hZ,hD,hbq⟩:=hrel
         by_cases hli:i<m
         ·have hi1:(i:Int)<m:=by omega
          have q1:=hZ.out.cell i hli
          have hn1:=hZ.out.num i hli
          rw [if_neg (Nat.lt_irrefl i)] at hn1
          have HMO:=hid (mod_calls (P i) (P i) dp (numD y m i) (d:Nat) wr hn1.blk hn1 hD.out (by have:=HDP.out;omega) (HWN.out i hli) (wide_small (by have:=HD5.out;omega)))
          clear hn1
          go_wp2_with fail
          refine HMO.out.mono ?_;rintro e w4 ⟨rfl,hx4,hb4⟩
          have hz4:=hZ.out.set hli hx4 hb4
          have HZ4:Hid (RowZ w4 wo.heap.size g m m P (fun k=>if k<i+1 then numD y m k % (d:Int) else numD y m k)):=hid (hz4.congr fun k _=>by
           by_cases e:k=i
           ·subst e;rw [if_pos rfl,if_pos (by omega)]
           ·rw [if_neg e]
            by_cases e2:k<i
            ·rw [if_pos e2,if_pos (by omega)]
            ·rw [if_neg e2,if_neg (by omega)])
          have HD4:=hid (hD.out.but (hZ.out.num i hli).blk hb4 (fun e=>HNE.out i hli e.symm))
          have HB4:=hid (hbq.out.trans (hb4.below (hZ.out.low i hli) hbq.out.size))
          clear hx4 hb4 hz4 hZ hD hbq HMO q1
          go_wp2
          go_roundw
          case rel=>exact ⟨i+1,by omega,by go_num,HZ4,HD4,HB4⟩
          case measure=>simp [intOf];omega
         ·obtain rfl:m=i:=by omega
          have hbt:=HB1.out.trans ((hbe.out.trans (hbq.out.mono hbe.out.size)).mono HB1.out.size)
          have HBT:=hid hbt
          have HOW:=hid (hZ.out.own.congr (g:=fun k=>numD y m k % (d:Int)) fun k hk=>by rw [if_pos hk])
          have hok:=hR.out.1.some_ok HV.out ht HAT.out HRR.out (HND.out r HRR.out) HD1.out HD2.out HDEN.out
          rw [HDD.out] at hok
          have HOK:=hid hok
          clear hbt hok hZ hbq
          go_wp2
          go_ret3
          exact ⟨.inr ⟨HNO.out,g,dp,_,_,rfl,HOW.out,hD.out,HOK.out⟩,HBT.out⟩
      ·obtain ⟨p,rfl⟩:∃ p,k=p+1:=⟨k-1,by omega⟩
       have hz2:=hz.out
       obtain rfl:z=(p:Int):=by omega
       have hp0:(0:Int)≤(p:Int):=by omega
       have hpt:p≤t:=by omega
       have hbt:=HB1.out.trans (hbe.out.mono HB1.out.size)
       have k1:=(HBL.out.ext hbt).cell 1 (by simp [sysV])
       simp only [sysV,List.getElem_cons_zero,List.getElem_cons_succ,Option.map] at k1
       have l1:=(HLC.out.ext hbt).c1
       obtain ⟨Fm,hM,hF⟩:=HLC.out.map
       have hlk:=(hM.ext hbt).look p (by omega)
       have hqn:=eqlNilV
       have HBT:=hid hbt
       rcases hF p (by omega) with ⟨hf1,hf2⟩|⟨vr,r,hf1,hf2,hf3⟩
       ·rw [hf1,Option.getD_none] at hlk
        have HR2:Hid (RefY m rc t p y∧∀ i,Sq (refK (t+1-p)) (y i)):=hid ⟨hR.out.1.skip hf2,fun i=>(hR.out.2 i).mono (by
         rw [show t+1-p=(t+1-(p+1))+1 by omega]
         have:=refK_pos (t+1-(p+1))
         simp only [refK];omega)⟩
        clear hf1 hf2 hF hM hR hbt hz hz2 hk0
        go_wp2
        go_roundw
        case rel=>exact ⟨p,(p:Int)-1,y,by omega,by go_num,hid rfl,hO,HR2,hbe⟩
        case measure=>simp [intOf]
       ·rw [hf1,Option.getD_some] at hlk
        rw [HN.out] at hf3
        obtain ⟨Ap,cp,rfl,hcp1,hcp2,hf4⟩:=id hf3
        obtain ⟨b2,o2,-,rfl,-⟩:=hf4 0 (by omega)
        have hv3:=hf3.ext hbt
        have hbd3:∀ i,(r i).natAbs≤3149280000000:=fun i=>HV.out.smallC hf2 i
        have hrp:=HV.out.echC.pos p r hf2
        have HV3:=hid hv3;have HBD3:Hid (∀ i,(r i).natAbs≤3149280000000):=hid hbd3;have HF2:=hid hf2;have HRP:=hid hrp;have HF3:=hid hf3
        have hA1:Below wo.heap.size wo (wo.alloc (.cells #[.bool false,.slice none 0 0,.slice none 0 0] 203 (0,0))):=(Below.refl _ _).alloc (Nat.le_refl _) _
        have hz1:=ratZero wo
        have HA1:=hid hA1;have HZ1:=hid hz1
        clear hf1 hf2 hf3 hf4 hF hM hv3 hbd3 hrp hbt hz hz2 hk0 hA1 hz1
        go_upto_if 88 with (fail)
        go_cut [15] (fun s wx=>s=.pointer (some ⟨wo.heap.size,0,none⟩)∧Hid (RatP wx wo.heap.size (if p=t then 1 else 0))∧Hid (Below wo.heap.size wo wx))
        case first =>
         by_cases hpt2:p=t
         ·have hd:((p:Int) == (t:Int))=true:=by rw [hpt2];simp
          have HSI:=hid (setInt64_calls wo.heap.size 1 _ (by omega) (by omega) HZ1.out.1)
          have HPT:=hid hpt2
          clear hpt2
          go_wp2_with fail
          refine HSI.out.mono ?_;rintro e w3 ⟨rfl,hx,hb3⟩
          have HX:Hid (RatP w3 wo.heap.size (if p=t then 1 else 0)):=hid (by rw [if_pos HPT.out];exact hx)
          have HB3:=hid (HA1.out.trans (hb3.below (Nat.le_refl _) HA1.out.size))
          clear hx hb3 HSI
          go_wp2
          go_meet
          exact ⟨rfl,HX,HB3⟩
         ·have hd:((p:Int) == (t:Int))=false:=by simp;omega
          have HX:Hid (RatP (wo.alloc (.cells #[.bool false,.slice none 0 0,.slice none 0 0] 203 (0,0))) wo.heap.size (if p=t then 1 else 0)):=hid (by rw [if_neg hpt2];exact HZ1.out)
          clear hpt2
          go_wp2
          go_meet
          exact ⟨rfl,HX,HA1⟩
        case rest =>
         obtain ⟨rfl,hX,hbX⟩:=hcut
         obtain ⟨ps,hps⟩:∃ ps,wo.heap.size=ps:=⟨_,rfl⟩
         rw [hps] at hX ⊢
         have HPS:=hid hps
         have hX0:Hid (RatP wc ps (refS t p 0 y r)):=hid (by
          have e:refS t p 0 y r=if p=t then 1 else 0:=by unfold refS;simp only [Lp.sumTo];grind
          rw [e];exact hX.out)
         clear hX hps k1 l1 hlk hqn HA1 HZ1
         go_wp2_with fail
         go_loopw [16] (fun tq wq=>∃ (j:Nat),j≤t-p∧tq=.int .i64 ((p+1+j:Nat):Int)∧Hid (RatP wq ps (refS t p j y r))∧Hid (Below wo.heap.size wo wq)) (fun tq _=>t+1-(intOf tq).toNat)
         case atStart=>exact ⟨0,Nat.zero_le _,by go_num,hX0,hbX⟩
         case round =>
          clear hX0 hbX
          obtain ⟨j,hj,rfl,hX,hbX⟩:=hrel
          obtain ⟨q,hq⟩:∃ q,p+1+j=q:=⟨_,rfl⟩
          rw [hq]
          have HQ:=hid hq
          by_cases hlj:j<t-p
          ·have hqt:(q:Int)≤(t:Int):=by omega
           have hqm:(q:Int)<m:=by omega
           have hqN:(q:Int)<N:=by omega
           have hqm2:q<m:=by omega
           obtain ⟨yq,q1,hyq⟩:=(hO.out.ext hbX.out).num q hqm2
           obtain ⟨b4,o4,rq,e4,-,q2,hrq⟩:=(HV3.out.ext hbX.out).at (show q<N by omega)
           injection e4 with e4;injection e4 with e5 e6;subst e5;subst e6
           have HYQ:=hid hyq;have HRQ:=hid hrq
           have hsy:=hR.out.2 q
           have hk6:refK (t+1-(p+1))≤1100000:=refK_le (by omega)
           have hri:Sq 2 ((r q:Int):Rat):=Sq.int (by have:=HBD3.out q;omega)
           have hrs:=Sq.refS (t:=t) (p:=p) hR.out.2 HBD3.out j
           have hjk:j*(refK (t+1-(p+1))+3)≤6*1100003:=Nat.mul_le_mul (by omega) (by omega)
           have WYQ:Hid (RSm (y q)):=hid (hsy.rsm (by omega))
           have WRI:Hid (RSm ((r q:Int):Rat)):=hid (hri.rsm (by omega))
           have WMU:Hid (RSm (y q*((r q:Int):Rat))):=hid ((hsy.mul hri).rsm (by omega))
           have WRS:Hid (RSm (refS t p j y r)):=hid (hrs.rsm (by omega))
           have WRQ:Hid (Wide (r q)):=hid (wide_small (by have:=HBD3.out q;omega))
           clear hyq hrq hsy hk6 hri hrs hjk hq
           go_wp2_with fail
           refine wp_region_keys (w0:=wr) 14 [98,99,100,101,102,103,104,105,106,107,108,109,110,111]
            [leafS 98 (.pointer (some ⟨ps,0,none⟩)),leafS 99 (.pointer (some ⟨ps,0,none⟩)),leafA RatBlk 100 wr.heap.size,leafS 101 (.slice (some ⟨yb,0,none⟩) m m),leafS 102 (.int .i64 q),leafS 103 (.pointer (some ⟨yb,q,none⟩)),leafS 104 (.pointer (some ⟨yq,0,none⟩)),leafA RatBlk 105 wr.heap.size,leafS 106 (.slice (some ⟨b2,o2,none⟩) N cp),leafS 107 (.int .i64 q),leafS 108 (.pointer (some ⟨b2,o2+q,none⟩)),leafS 109 (.pointer (some ⟨rq,0,none⟩)),leafR 105 110 (fun p w=>RatP w p ((r q:Int):Rat)) wr.heap.size,leafR 100 111 (fun p w=>RatP w p (y q*((r q:Int):Rat))) wr.heap.size]
            [100,105] [none,none,none,none,none,none,none,none,none,none,none,none,some 105,some 100] RatBlk (by kernel_rfl) (by kernel_rfl) (by kernel_rfl) rfl (F:=?cFr24) ?r24c1 ?r24c2 ?r24c3 ?r24c4
           case r24c1 =>
            intro x
            simp only [fullF,Act.put,List.setIfInBounds_toArray,List.set_cons_zero,List.set_cons_succ]
            rfl
           case r24c2 =>
            exact ⟨keeps_const _ _ _ _ _ _ _,keeps_const _ _ _ _ _ _ _,keeps_alloc ratBlk_ext ratBlk_other _ _ _ _ _,keeps_const _ _ _ _ _ _ _,keeps_const _ _ _ _ _ _ _,keeps_const _ _ _ _ _ _ _,keeps_const _ _ _ _ _ _ _,keeps_alloc ratBlk_ext ratBlk_other _ _ _ _ _,keeps_const _ _ _ _ _ _ _,keeps_const _ _ _ _ _ _ _,keeps_const _ _ _ _ _ _ _,keeps_const _ _ _ _ _ _ _,keeps_res (calm_rat _) _ _ _ _ _ rfl (by decide),keeps_res (calm_rat _) _ _ _ _ _ rfl (by decide),trivial⟩
           case r24c3 =>
            refine ⟨?_,?_,?_,?_,?_,?_,?_,?_,?_,?_,?_,?_,?_,?_,trivial⟩
            all_goals
             intro xx wq HE hd K hK
             have hc:=(bcell HE).1
             have q1':=(hc _ _ (cell_lt q1)).trans q1
             have q2':=(hc _ _ (cell_lt q2)).trans q2
             try have e0:xx 98=_:=hd 0 _ (by decide) rfl
             try have e1:xx 99=_:=hd 1 _ (by decide) rfl
             try have g2:=hd 2 _ (by decide) rfl
             try have e3:xx 101=_:=hd 3 _ (by decide) rfl
             try have e4:xx 102=_:=hd 4 _ (by decide) rfl
             try have e5:xx 103=_:=hd 5 _ (by decide) rfl
             try have e6:xx 104=_:=hd 6 _ (by decide) rfl
             try have g7:=hd 7 _ (by decide) rfl
             try have e8:xx 106=_:=hd 8 _ (by decide) rfl
             try have e9:xx 107=_:=hd 9 _ (by decide) rfl
             try have e10:xx 108=_:=hd 10 _ (by decide) rfl
             try have e11:xx 109=_:=hd 11 _ (by decide) rfl
             try have g12:=hd 12 _ (by decide) rfl
             try have g13:=hd 13 _ (by decide) rfl
             have HE:=hid HE
             have HC:=hid hc
             clear hd hc
             all_goals go_simp
             try (refine hK _ _ _ (mv_const _ rfl) ?_;dsimp only [Act.put];first|done|rfl|(simp [*];done))
            ·refine hK _ _ _ (mv_alloc _ HE.out.size (RatBlk.new _)) ?_
             dsimp only [Act.put]
             first|rfl|(simp [*];done)|(simp [*,ptr];done)
            ·refine hK _ _ _ (mv_alloc _ HE.out.size (RatBlk.new _)) ?_
             dsimp only [Act.put]
             first|rfl|(simp [*];done)|(simp [*,ptr];done)
            ·obtain ⟨k,h105,hk1,hk2⟩:=g7
             rw [h105]
             refine (setInt_calls k rq (r q) wq hk2 (HRQ.out.ext HE.out) WRQ.out).mono ?_
             rintro e w2 ⟨rfl,hz2,hb2⟩
             exact hK _ _ _ (mv_set h105 hk1 hk2 hz2.blk hb2 hz2 (by decide) rfl) (by first|(dsimp only [Act.put];done)|(dsimp only [Act.put];first|rfl|(simp [*];done)|(simp [*,ptr];done)))
            ·obtain ⟨k,h100,hk1,hk2⟩:=g2
             obtain ⟨l,-,h110,hl1,hl2⟩:=g12
             rw [h100,h110]
             refine (ratMul_calls k yq l (y q) ((r q:Int):Rat) wq hk2 (HYQ.out.ext HE.out) hl2 WYQ.out WRI.out).mono ?_
             rintro e w2 ⟨rfl,hz2,hb2⟩
             exact hK _ _ _ (mv_set h100 hk1 hk2 hz2.blk hb2 hz2 (by decide) rfl) (by first|(dsimp only [Act.put];done)|(dsimp only [Act.put];first|rfl|(simp [*];done)|(simp [*,ptr];done)))
           case r24c4 =>
            intro xx wz hE hG hA
            have e0:xx 98=_:=hG 0 _ rfl
            have e1:xx 99=_:=hG 1 _ rfl
            have g2:=hG 2 _ rfl
            have e3:xx 101=_:=hG 3 _ rfl
            have e4:xx 102=_:=hG 4 _ rfl
            have e5:xx 103=_:=hG 5 _ rfl
            have e6:xx 104=_:=hG 6 _ rfl
            have g7:=hG 7 _ rfl
            have e8:xx 106=_:=hG 8 _ rfl
            have e9:xx 107=_:=hG 9 _ rfl
            have e10:xx 108=_:=hG 10 _ rfl
            have e11:xx 109=_:=hG 11 _ rfl
            have g12:=hG 12 _ rfl
            have g13:=hG 13 _ rfl
            obtain ⟨l,-,h111,hl1,hl2⟩:=g13
            simp only [ptr] at h111
            have hx1:=hX.out.ext hE
            have HSB:=hid (ratSub_calls ps ps l (refS t p j y r) (y q*((r q:Int):Rat)) wz hx1.1 hx1 hl2 WRS.out WMU.out)
            have HE:=hid hE
            clear hG hA hE hx1 hl2 g2 g7 g12
            refine tail_one (i:=14) (by kernel_rfl) rfl ?_
            intro K hK
            go_simp
            refine HSB.out.mono ?_;rintro e w3 ⟨rfl,hx3,hb3⟩
            refine hK _ _ ?_
            have HX3:Hid (RatP w3 ps (refS t p (j+1) y r)):=hid (by rw [refS_succ,HQ.out];exact hx3)
            have HB3:=hid ((hbX.out.trans (HE.out.mono hbX.out.size)).trans (hb3.below (by rw [←HPS.out];exact Nat.le_refl _) (by have:=hbX.out.size;have:=HE.out.size;omega)))
            clear hK hx3 hb3 HSB hX hbX
            refine wpAny_done (by kernel_rfl) ?_ _
            simp only [Exit.inBlock,Exit.then]
            have hq:=HQ.out
            go_wp2
            go_roundw
            case rel=>exact ⟨j+1,by omega,by rw [show p+1+(j+1)=q+1 by have:=HQ.out;omega];go_num,HX3,HB3⟩
            case measure=>simp [intOf];omega
          ·obtain rfl:j=t-p:=by omega
           have hqt:¬ ((q:Int)≤(t:Int)):=by omega
           have hpm:(p:Int)<m:=by omega
           have hpN:(p:Int)<N:=by omega
           have hpm2:p<m:=by omega
           have hA2:Below wr.heap.size wr (wr.alloc (.cells #[.bool false,.slice none 0 0,.slice none 0 0] 203 (0,0))):=(Below.refl _ _).alloc (Nat.le_refl _) _
           obtain ⟨b4,o4,rp,e4,-,q2,hrq⟩:=((HV3.out.ext hbX.out).ext hA2).at (show p<N by omega)
           injection e4 with e4;injection e4 with e5 e6;subst e5;subst e6
           have hsy:=hR.out.2
           have hk6:refK (t+1-(p+1))≤1100000:=refK_le (by omega)
           have hri:Sq 2 ((r p:Int):Rat):=Sq.int (by have:=HBD3.out p;omega)
           have hrs:=Sq.refS (t:=t) (p:=p) hsy HBD3.out (t-p)
           have hjk:(t-p)*(refK (t+1-(p+1))+3)≤5*(refK (t+1-(p+1))+3):=Nat.mul_le_mul_right _ (by omega)
           have hne:((r p:Int):Rat).num≠0:=by rw [Rat.num_intCast];have:=HRP.out;omega
           have WRI:Hid (RSm ((r p:Int):Rat)):=hid (hri.rsm (by omega))
           have WRS:Hid (RSm (refS t p (t-p) y r)):=hid (hrs.rsm (by omega))
           have HNE:=hid hne
           have HSY:Hid (∀ i,Sq (refK (t+1-p)) (if i=p then refS t p (t-p) y r / ((r p:Int):Rat) else y i)):=hid fun i=>by
            rw [show t+1-p=(t+1-(p+1))+1 by omega]
            have hkp:=refK_pos (t+1-(p+1))
            split
            ·rw [Rat.div_def]
             exact (hrs.mul (hri.inv hne)).mono (by simp only [refK];omega)
            ·exact (hsy i).mono (by simp only [refK];omega)
           have HRY:Hid (RefY m rc t p fun i=>if i=p then refS t p (t-p) y r / ((r p:Int):Rat) else y i):=hid (hR.out.1.step HV.out.echC hpt ht HF2.out (Rat.div_mul_cancel fun e=>hne (by rw [e];rfl)))
           have HSI:=hid (setInt_calls wr.heap.size rp (r p) _ (RatBlk.new wr) hrq (wide_small (by have:=HBD3.out p;omega)))
           have HA2:=hid hA2
           clear hsy hk6 hri hrs hjk hne hrq hA2 hR
           go_wp2_with fail
           refine HSI.out.mono ?_;rintro e w3 ⟨rfl,hx3,hb3⟩
           have hB3:Below wr.heap.size wr w3:=HA2.out.trans (hb3.below (Nat.le_refl _) HA2.out.size)
           have hx4:=hX.out.ext hB3
           have HQU:=hid (ratQuo_calls ps ps wr.heap.size _ _ w3 hx4.1 hx4 hx3 WRS.out WRI.out HNE.out)
           have HB3:=hid hB3
           clear hx3 hb3 hB3 hx4 HSI HA2 hX
           go_wp2_with fail
           refine HQU.out.mono ?_;rintro e w4 ⟨rfl,hx4,hb4⟩
           have hB4:Below wo.heap.size wo w4:=(hbX.out.trans (HB3.out.mono hbX.out.size)).trans (hb4.below (by rw [←HPS.out];exact Nat.le_refl _) (by have:=hbX.out.size;have:=HB3.out.size;omega))
           have hO4:=hO.out.ext hB4
           obtain ⟨p9,hc9,-⟩:=hO4.num p hpm2
           have hf9:=hO4.fr p
           have hst:=hO4.set (i:=p) hpm2 hx4
           have HST:=hid hst;have HB4:=hid ((hbe.out.trans (hB4.mono hbe.out.size)).setCell (p:=⟨yb,p,none⟩) hyw (.pointer (some ⟨ps,0,none⟩)))
           clear hx4 hb4 hB4 hO4 hst HQU HB3 hO hbe hbX q2
           go_wp2
           go_roundw
           case rel=>exact ⟨p,(p:Int)-1,_,by omega,by go_num,hid rfl,HST,hid ⟨HRY.out,HSY.out⟩,HB4⟩
           case measure=>simp [intOf]
end
end Go.Proofs.YtkljafmdbajfeaaGreatDoor
