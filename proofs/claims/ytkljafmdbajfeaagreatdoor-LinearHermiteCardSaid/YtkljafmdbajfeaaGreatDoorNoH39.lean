/- The reference's whole numbers: divD. -/
import Derived.Test.YtkljafmdbajfeaaGreatDoorNoH03
import Derived.Test.YtkljafmdbajfeaaGreatDoorNoH38
namespace Go.Proofs.YtkljafmdbajfeaaGreatDoor
set_option linter.unusedVariables false
set_option linter.unusedSimpArgs false
open Go.Lib (hid)
section
open Go.RowKit
structure QuoAt (a:List Nat) (Y:Nat) (qs:List Nat) (k R:Nat):Prop where
 len:qs.length=a.length
 dig:T.Dig qs
 val:T.val (a.drop k)=Y*T.val (qs.drop k)+R
 lt:R<Y
theorem QuoAt.start {a:List Nat} {Y:Nat} (hY:0<Y):QuoAt a Y (List.replicate a.length 0) a.length 0 :=
 ⟨by simp,fun d hd=>by rw [(List.mem_replicate.1 hd).2];omega,by simp [T.val],hY⟩
theorem QuoAt.less {a qs:List Nat} {Y k R:Nat} (h:QuoAt a Y qs k R) {d:Nat} (hd:d<10000):d+10000*R<Y*10000:=by
 have:=h.lt
 have:10000*(R+1)≤10000*Y:=Nat.mul_le_mul_left _ (by omega)
 omega
theorem QuoAt.step {a qs:List Nat} {Y k R t:Nat} (h:QuoAt a Y qs (k+1) R) (hk:k<a.length) (ht:t<10000) (h1:Y*t≤nthd a k+10000*R) (h2:nthd a k+10000*R<Y*(t+1)) :
 QuoAt a Y (qs.set k t) k (nthd a k+10000*R-Y*t):=by
 have hl:=h.len
 refine ⟨by rw [List.length_set];exact hl,rdig_set h.dig _ ht,?_,by rw [Nat.mul_succ] at h2;omega⟩
 have e1:a.drop k=nthd a k :: a.drop (k+1):=T.drop_nthd hk
 have e2:(qs.set k t).drop k=t :: qs.drop (k+1):=by
  rw [List.drop_eq_getElem_cons (by rw [List.length_set];omega)]
  congr 1
  ·simp
  ·rw [List.drop_set_of_lt (by omega)]
 rw [e1,e2,T.val,T.val,h.val]
 have e3:Y*(t+10000*T.val (qs.drop (k+1)))=Y*t+10000*(Y*T.val (qs.drop (k+1))):=by
  rw [Nat.mul_add];congr 1;rw [←Nat.mul_assoc,←Nat.mul_assoc,Nat.mul_comm Y]
 omega
theorem QuoAt.done {a qs:List Nat} {Y R:Nat} (h:QuoAt a Y qs 0 R):T.trimL qs=T.digits (T.val a / Y)∧R=T.val a % Y:=by
 have hv:=h.val
 rw [List.drop_zero,List.drop_zero] at hv
 have hlt:=h.lt
 have e:T.val a / Y=T.val qs:=by
  rw [hv,Nat.mul_add_div (by omega),Nat.div_eq_of_lt hlt];omega
 exact ⟨by rw [T.trimL_digits h.dig,e],by rw [hv,Nat.mul_add_mod,Nat.mod_eq_of_lt hlt]⟩
theorem mul_mono {Y m t:Nat} (h:m≤t):Y*m≤Y*t:=Nat.mul_le_mul_left _ h
theorem dig_one {d:Nat} (h:d<10000):T.Dig [d]:=fun x hx=>by simp at hx;omega
theorem dig_cons {d:Nat} {ds:List Nat} (h:d<10000) (k:T.Dig ds):T.Dig (d :: ds):=fun x hx=>by
 rcases List.mem_cons.1 hx with rfl|hx
 ·exact h
 ·exact k x hx
theorem Rds.far {w w1:World} {A:Option Addr} {ds:List Nat} (h:Rds w A ds) {B:Nat} (hb:Below B w w1) (hB:w.heap.size≤B):Rds w1 A ds:=h.ext (hb.mono hB)
theorem val_one (d:Nat):T.val [d]=d:=by simp [T.val]
theorem OwnD.ext {w w':World} {base:Nat} {v:Value} {ds:List Nat} (h:OwnD w base v ds) (hb:Below w.heap.size w w'):OwnD w' base v ds:=own_ext h hb
set_option maxRecDepth 100000 in
theorem wp_joinD {ops:Array Oper} {rest:List Oper} {o:Oper} {a:Act} {Q:Exit→Act→World→Prop} (hgd:o.guard=none) (s x:Operand)
 (ho:o.op=.call { callee:=.builtin .append,args:=#[s,x],argTypes:=#[23,23] }) {wr:World} {A:Option Addr} {c:Nat} {ds:List Nat} {d:Nat} {z:Int} (hs:a.eval s=.slice (some ⟨wr.heap.size,0,none⟩) 1 1)
 (hx:a.eval x=.slice A ds.length c) (hR:Rds wr A ds) (hz:z=(d:Nat)) (hl:ds.length≤10000000000000)
 (h:∀ v' w',Hid (OwnD w' wr.heap.size v' (d :: ds))→Hid (Below wr.heap.size wr w')→wpList Tryz.prog ops Q rest (a.put o.dst v') w') :
 wpList Tryz.prog ops Q (o :: rest) a (wr.alloc (.cells #[.int .i64 z] 3 (0,0))):=by
 subst hz
 obtain ⟨i0,hi,hz0,hz1,hz2⟩:=info_parts infoInt
 have hb0:Below wr.heap.size wr (wr.alloc (.cells #[.int .i64 (d:Nat)] 3 (0,0))):=(Below.refl _ _).alloc (Nat.le_refl _) _
 have hown:(wr.alloc (.cells #[.int .i64 (d:Nat)] 3 (0,0))).ownsRow wr.heap.size 3 1 (.slice (some ⟨wr.heap.size,0,none⟩) 1 1) 1 [.int .i64 (d:Nat)]:=World.ownsRow_lit wr #[.int .i64 (d:Nat)] 1 (Nat.le_refl _) (by decide) rfl
 cases A with
 | none =>
   have hL:ds=[]:=by
    cases ds with
    | nil=>rfl
    | cons n L=>obtain ⟨b,o,e,-⟩:=hR 0 (by simp);cases e
   subst hL
   refine wpList_plain hgd fun K hK=>?_
   have hrun:=run_app_noneI (P:=Tryz.prog) (wr.alloc (.cells #[.int .i64 (d:Nat)] 3 (0,0))) wr.heap.size 23 o.type 3 i0 1 Tryz.underlying23 hi _ _ _ hown c
   unfold Oper.wp execOp
   rw [List.length_nil] at hx
   simp only [ho,resolve,invoke,builtin,Sem.run_bind,Sem.run_pure,Result.andThen_ok,List.map_toArray,List.map_cons,List.map_nil,hs,hx,hrun]
   exact hK _ _ (h _ _ (hid hown) (hid hb0))
 | some ad =>
   obtain ⟨b,of,f⟩:=ad
   have hnews:∀ j u,(ds.map fun d=>Value.int .i64 (d:Nat))[j]? = some u→(wr.alloc (.cells #[.int .i64 (d:Nat)] 3 (0,0))).cell? ((⟨b,of,f⟩:Addr).add j)=some u:=fun j u hu=>by
    have hj:j<ds.length:=by have:=(List.getElem?_eq_some_iff.1 hu).1;simpa using this
    obtain ⟨b',o',e,hc⟩:=(hR.ext hb0) j hj
    injection e with e;injection e with e1 e2 e3
    subst e1;subst e2;subst e3
    rw [Addr.add_lit,hc]
    simp [hj] at hu
    rw [←hu,nthd_lt hj]
   refine wpList_append_own _ hgd s x 23 ho wr.heap.size 3 i0 _ 1 8 Tryz.underlying23 hi hz0 hz1 hz2 rfl (by decide) _ 1 [.int .i64 (d:Nat)] hs hown ⟨b,of,f⟩ ds.length c (ds.map fun d=>Value.int .i64 (d:Nat)) hx (by simp) hnews (fun u hu=>by obtain ⟨n,-,rfl⟩:=List.mem_map.1 hu;rfl) (by unfold maxLen;omega) (by omega) (by simp) ?_
   intro v' w' h1 hg h2
   refine h _ _ (hid ?_) (hid (hb0.grown hg (by simp) fun k hk=>?_))
   ·unfold OwnD;rw [List.length_cons,List.map_cons,Nat.add_comm];exact h1
   ·exact (World.ownsRow.lt hown k hk).1
set_option maxRecDepth 100000 in
set_option maxHeartbeats 2000000 in
theorem rdivD_calls (A B:Option Addr) (ca cb:Nat) (a b:List Nat) (X Y:Nat) (w:World) (ha:T.Dig a) (hX:T.val a=X) (hb:b=T.digits Y) (hY:0<Y) (hla:a.length≤4000000000000) (hlb:b.length≤3000000000000) (hA:Rds w A a) (hB:Rds w B b) :
 Calls Tryz.prog 223 #[.slice A a.length ca,.slice B b.length cb] w fun e w'=>∃ v1 v2,e=.returned (.tuple #[v1,v2])∧OwnD w' w.heap.size v1 (T.digits (X / Y))∧OwnD w' w.heap.size v2 (T.digits (X % Y))∧Below w.heap.size w w':=by
 have hdb:T.Dig b:=by rw [hb];exact T.digits_dig _
 have hvb:T.val b=Y:=by rw [hb];exact T.val_digits _
 have hb0:((b.length:Int) == 0)=false:=by
  rw [hb,T.digits_pos (by omega)];simp;omega
 have hmk:=fun w=>run_makeInts w a.length (by omega)
 have HA:=hid ha;have HDB:=hid hdb;have HVB:=hid hvb;have HX:=hid hX;have HEB:=hid hb;have HYP:=hid hY
 clear ha hdb hvb hX hb
 go_enter Tryz.func223,Tryz.ntmps223
 go_wp2_with fail
 clear hmk
 go_loopw [7,8,9,10,11,12,13] (fun r i _ _ _ _ _ wr=>∃ (k R:Nat) (qs:List Nat),k≤a.length∧i=.int .i64 ((k:Int)-1)∧DBlk wr w.heap.size qs∧Hid (QuoAt a Y qs k R)∧OwnD wr (w.heap.size+1) r (T.digits R)∧Below w.heap.size w wr) (fun _ i _ _ _ _ _ _=>(intOf i+1).toNat)
 case atStart=>exact ⟨a.length,0,_,Nat.le_refl _,rfl,DBlk.made _ _ _ rfl,hid (QuoAt.start hY),by rw [T.digits_zero];exact OwnD.nil _ _,(Below.refl _ _).alloc (Nat.le_refl _) _⟩
 case round =>
  obtain ⟨k,R,qs,hk,rfl,hos,hat,hown,hbe⟩:=hrel
  cases k with
  | zero =>
    rw [show ((0:Nat):Int)-1 = -1 from rfl]
    have htr:=rtrim_calls (some ⟨w.heap.size,0,none⟩) a.length qs wr (by rw [hat.out.len];omega) hos.rds
    rw [hat.out.done.1,hat.out.len] at htr
    have HT:=hid htr;have HB:=hid hbe;have HO:=hid hown;have HR:=hid hat.out.done.2
    have hs:=hbe.size
    clear htr hat hos hbe hown
    go_wp2_with fail
    refine HT.out.mono ?_;rintro e w1 ⟨v,rfl,ho,hb1⟩
    have HO1:=hid ho;have HB1:=hid (HB.out.trans (hb1.mono hs));have HO2:=hid (HO.out.ext hb1)
    clear ho hb1 HT HO HB
    go_wp2
    go_ret2
    exact ⟨_,_,rfl,by rw [←HX.out];exact HO1.out.mono hs,by rw [←HX.out,←HR.out];exact HO2.out.mono (by omega),HB1.out⟩
  | succ k =>
    rw [show ((k+1:Nat):Int)-1=k from by omega]
    obtain ⟨b1,o1,rfl,g1⟩:=(hA.ext hbe) k (by omega)
    have hk0:(0:Int)≤k:=by omega
    have hk1:(k:Int)<a.length:=by omega
    have x:nthd a k<10000:=HA.out.nth k
    have HK:Hid (k<a.length):=hid (by omega)
    obtain ⟨wo,rfl⟩:∃ wo:World,wo=wr:=⟨_,rfl⟩
    obtain ⟨A7,c7,rfl,-,-,hR7⟩:=hown.rsl
    have hbs:=hbe.size
    have hrl:(T.digits R).length≤3000000000000:=Classical.byContradiction fun hn=>by
     have h1:=T.digits_len_lt (n:=Y) (m:=R) (by rw [←HEB.out];omega)
     have:=hat.out.lt
     omega
    have HRL:=hid hrl
    have HOS:=hid hos;have HB:=hid hbe
    clear hown hos hbe hrl hA
    go_wp2_with (at_builtin;refine wp_joinD rfl _ _ rfl rfl rfl hR7 rfl (by have:=HRL.out;omega) ?_)
    intro v' w1 ho hb1
    have HB1:=hid (HB.out.trans (hb1.out.mono hbs))
    have hs1:=hb1.out.size
    obtain ⟨A9,c9,rfl,-,-,hR9⟩:=ho.out.rsl
    have htr:=rtrim_calls A9 c9 (nthd a k :: T.digits R) w1 (by rw [List.length_cons];have:=HRL.out;omega) hR9
    rw [T.trimL_digits (dig_cons x (T.digits_dig R)),show T.val (nthd a k :: T.digits R)=nthd a k+10000*R by rw [T.val,T.val_digits]] at htr
    obtain ⟨R1,hR1⟩:∃ R1,nthd a k+10000*R=R1:=⟨_,rfl⟩
    rw [hR1] at htr
    have HL1:Hid ((T.digits R1).length≤3000000000001):=hid (by
     have:=T.trim_len (nthd a k :: T.digits R)
     rw [T.trimL_digits (dig_cons x (T.digits_dig R)),show T.val (nthd a k :: T.digits R)=nthd a k+10000*R by rw [T.val,T.val_digits],hR1,List.length_cons] at this
     have:=HRL.out;omega)
    have hlt:=hat.out.less x
    rw [hR1] at hlt
    obtain ⟨t,ht⟩:∃ t,R1 / Y=t:=⟨_,rfl⟩
    have ht1:Y*t≤R1:=by rw [←ht];exact Nat.mul_div_le _ _
    have ht2:R1<Y*(t+1):=by
     have:=Nat.lt_mul_div_succ R1 HYP.out;rw [ht] at this;exact this
    have ht3:t<10000:=by rw [←ht];exact Nat.div_lt_of_lt_mul hlt
    have HAT:=hid (hat.out.step HK.out ht3 (by rw [hR1];exact ht1) (by rw [hR1];exact ht2))
    rw [hR1] at HAT
    have HT1:=hid ht1;have HT2:=hid ht2
    have HT:=hid htr
    have hql:Hid (qs.length=a.length):=hid hat.out.len
    clear htr hat hR7 hR9 ho hlt ht ht1 ht2 hR1 g1 HRL
    go_wp2_with fail
    refine HT.out.mono ?_;rintro e w2 ⟨v2,rfl,ho2,hb2⟩
    have HB2:=hid (HB1.out.trans (hb2.mono HB1.out.size))
    have HQ2:=hid (show DBlk w2 w.heap.size qs from (Blk.ext HOS.out hb1.out).ext hb2)
    have HO2:=hid (ho2.mono (b2:=w.heap.size+1) (by have:=HB.out.size;have:=Blk.lt HOS.out;omega))
    obtain ⟨A2,c2,rfl,-,-,-⟩:=ho2.rsl
    clear ho2 hb2 HT hb1 HB HB1 HOS
    go_wp2_with fail
    go_loopw [10,11,12,13] (fun lo hi _ _ wr=>∃ l h:Nat,lo=.int .i64 l∧hi=.int .i64 h∧l≤t∧t≤h∧h≤9999∧Below w2.heap.size w2 wr) (fun lo hi _ _ _=>(intOf hi-intOf lo).toNat)
    case atStart=>exact ⟨0,9999,rfl,rfl,Nat.zero_le _,by omega,Nat.le_refl _,Below.refl _ _⟩
    case round =>
     obtain ⟨l,h,rfl,rfl,hl1,hl2,hl3,hbi⟩:=hrel
     have HBI:=hid hbi
     have hsi:=hbi.size
     clear hbi
     by_cases hlh:l<h
     ·obtain ⟨m,hm⟩:∃ m,(l+h+1) / 2=m:=⟨_,rfl⟩
      have hm2:((l:Int)+h+1) / 2=m:=by omega
      have hm3:l<m∧m≤h:=by omega
      have htm:=rtrim_calls (some ⟨wr.heap.size,0,none⟩) 1 [m] (wr.alloc (.cells #[.int .i64 (m:Nat)] 3 (0,0))) (by simp) (fun i hi=>⟨wr.heap.size,0,rfl,by
       simp at hi;subst hi;exact new_cell wr 3 (.int .i64 (m:Nat)) 0 _ rfl⟩)
      rw [T.trimL_digits (dig_one (by omega)),val_one] at htm
      have HTM:=hid htm
      have HM:=hid hm2;have HM3:=hid hm3
      have hlh2:(l:Int)<h:=by omega
      clear htm hm
      go_wp2_with fail
      refine HTM.out.mono ?_;rintro e w3 ⟨v3,rfl,ho3,hb3⟩
      have HB3:=hid ((HBI.out.alloc hsi (.cells #[.int .i64 (m:Nat)] 3 (0,0))).trans (hb3.mono (by simp;omega)))
      obtain ⟨A3,c3,rfl,-,-,hR3⟩:=ho3.rsl
      have hmu:=rmulD_calls B A3 cb c3 b (T.digits m) w3 HDB.out (T.digits_dig _) (by omega) (by have:=T.digits_len (n:=m) (k:=1) (by omega);omega) ((hB.ext HB2.out).far HB3.out (Nat.le_refl _)) hR3
      rw [HVB.out,T.val_digits] at hmu
      have HMU:=hid hmu
      clear hmu hR3 ho3 hb3 HTM
      go_wp2_with fail
      refine HMU.out.mono ?_;rintro e w4 ⟨v4,rfl,ho4,hb4⟩
      have HB4:=hid (HB3.out.trans (hb4.mono HB3.out.size))
      obtain ⟨A4,c4,rfl,-,-,hR4⟩:=ho4.rsl
      have hyl:(T.digits (Y*m)).length≤maxLen:=by
       have h1:=digits_mul (m:=Y) (n:=m) (k:=3000000000000) (by rw [←HEB.out];omega) (by have:=T.digits_len (n:=m) (k:=1) (by omega);omega)
       unfold maxLen;omega
      have HCM:=hid (rcmpD_calls A4 A2 c4 c2 (Y*m) R1 w4 hyl (by have:=HL1.out;unfold maxLen;omega) hR4 (by obtain ⟨A',c',e1,-,-,e2⟩:=(HO2.out.ext HB4.out).rsl;cases e1;exact e2))
      clear hR4 ho4 hb4 HMU hyl
      go_wp2_with fail
      refine HCM.out.mono ?_;rintro e w5 ⟨rfl,kk,rfl⟩
      have HB5:=hid (HB4.out.trans ((drewN_below w4 kk).mono HB4.out.size))
      by_cases hle:m≤t
      ·have hsg:decide (sgn (Y*m) R1≤0)=true:=by
        have h1:=mul_mono (Y:=Y) hle
        have h2:=HT1.out
        rcases Nat.lt_or_ge (Y*m) R1 with h3|h3
        ·rw [sgn_lt h3];rfl
        ·rw [sgn_eq (by omega)];rfl
       clear HCM
       go_wp2_with fail
       go_roundw
       case rel=>exact ⟨m,h,rfl,rfl,hle,hl2,hl3,HB5.out⟩
       case measure=>simp [intOf];have:=HM3.out;omega
      ·have hsg:decide (sgn (Y*m) R1≤0)=false:=by
        have h1:=mul_mono (Y:=Y) (show t+1≤m by omega)
        have h2:=HT2.out
        rw [sgn_gt (by omega)];rfl
       clear HCM
       go_wp2_with fail
       go_roundw
       case rel=>exact ⟨l,m-1,rfl,by have:=HM3.out;go_num,hl1,by omega,by have:=HM3.out;omega,HB5.out⟩
       case measure=>simp [intOf];have:=HM3.out;omega
     ·obtain rfl:t=l:=by omega
      obtain rfl:t=h:=by omega
      have hlf:decide ((t:Int)<t)=false:=decide_eq_false (by omega)
      have hQ:DBlk wr w.heap.size qs:=Blk.ext HQ2.out HBI.out
      have bl:=Blk.lt hQ
      have f3:=Blk.free hQ k
      have g3:=hQ.cell k (by rw [hql.out];exact HK.out)
      have HQS:=hid (DBlk.set (w:=wr) hQ k t)
      have HBW:=hid (HB2.out.trans (HBI.out.mono HB2.out.size))
      have HBS:=hid (show Below w.heap.size w (wr.setCell ⟨w.heap.size,k,none⟩ (.int .i64 (t:Nat))) from HBW.out.setCell (Nat.le_refl _) _)
      have HOR:=hid ((HO2.out.ext HBI.out).set ⟨w.heap.size,k,none⟩ (.int .i64 (t:Nat)) (by simp))
      clear hQ HB2 HQ2 HO2
      have hkl:(k:Int)<a.length:=hk1
      have hsz:(wr.setCell ⟨w.heap.size,k,none⟩ (.int .i64 (t:Nat))).heap.size=wr.heap.size:=by simp
      have htm:=rtrim_calls (some ⟨wr.heap.size,0,none⟩) 1 [t] ((wr.setCell ⟨w.heap.size,k,none⟩ (.int .i64 (t:Nat))).alloc (.cells #[.int .i64 (t:Nat)] 3 (0,0))) (by simp) (fun i hi=>⟨wr.heap.size,0,rfl,by
       simp only [List.length_cons,List.length_nil,Nat.zero_add,Nat.lt_one_iff] at hi;subst hi
       have:=new_cell (wr.setCell ⟨w.heap.size,k,none⟩ (.int .i64 (t:Nat))) 3 (.int .i64 (t:Nat)) 0 _ rfl
       rw [hsz] at this;exact this⟩)
      rw [T.trimL_digits (dig_one (by omega)),val_one] at htm
      have HTM:=hid htm
      have HSI:=hid hsi
      clear htm hsi hbs hs1 hsz
      go_wp2_with fail
      refine HTM.out.mono ?_;rintro e w3 ⟨v3,rfl,ho3,hb3⟩
      have HE3:=hid (((Below.refl _ _).alloc (Nat.le_refl _) (.cells #[.int .i64 (t:Nat)] 3 (0,0))).trans (hb3.mono (by simp)))
      have HB3:=hid (ext_trans HBS.out HE3.out)
      have HQ3:Hid (DBlk w3 w.heap.size (qs.set k t)):=hid (Blk.ext HQS.out HE3.out)
      have HO3:=hid (HOR.out.ext HE3.out)
      obtain ⟨A3,c3,rfl,-,-,hR3⟩:=ho3.rsl
      have hmu:=rmulD_calls B A3 cb c3 b (T.digits t) w3 HDB.out (T.digits_dig _) (by omega) (by have:=T.digits_len (n:=t) (k:=1) (by omega);omega) (hB.ext HB3.out) hR3
      rw [HVB.out,T.val_digits] at hmu
      have HMU:=hid hmu
      clear hmu hR3 ho3 hb3 HTM HE3 HBS HOR HQS
      go_wp2_with fail
      refine HMU.out.mono ?_;rintro e w4 ⟨v4,rfl,ho4,hb4⟩
      have HB4:=hid (HB3.out.trans (hb4.mono HB3.out.size))
      have HQ4:Hid (DBlk w4 w.heap.size (qs.set k t)):=hid (Blk.ext HQ3.out hb4)
      have HO4:=hid (HO3.out.ext hb4)
      obtain ⟨A4,c4,rfl,-,-,hR4⟩:=ho4.rsl
      have hrl1:=HL1.out
      have hln:(T.digits (Y*t)).length≤(T.digits R1).length:=Classical.byContradiction fun hn=>by
       have h1:=T.digits_len_lt (n:=R1) (m:=Y*t) (by omega)
       have:=HT1.out
       omega
      have hsu:=rsubD_calls A2 A4 c2 c4 (T.digits R1) (T.digits (Y*t)) w4 (T.digits_dig _) (T.digits_dig _) (by omega) hln (by rw [T.val_digits,T.val_digits];exact HT1.out) (by obtain ⟨A',c',e1,-,-,e2⟩:=HO4.out.rsl;cases e1;exact e2) hR4
      rw [T.val_digits,T.val_digits] at hsu
      have HSU:=hid hsu
      clear hsu hln hrl1 hR4 ho4 hb4 HMU HO3 HO4 HQ3 HB3
      go_wp2_with fail
      refine HSU.out.mono ?_;rintro e w5 ⟨v5,rfl,ho5,hb5⟩
      have HQ5:Hid (DBlk w5 w.heap.size (qs.set k t)):=hid (Blk.ext HQ4.out hb5)
      have HO5:=hid (ho5.mono (b2:=w.heap.size+1) (by have:=Blk.lt HQ4.out;omega))
      have HB5:=hid (HB4.out.trans (hb5.mono HB4.out.size))
      clear ho5 hb5 HSU HQ4 HB4
      go_wp2_with fail
      go_roundw
      case rel=>exact ⟨k,_,_,by omega,by go_num,HQ5.out,HAT,HO5.out,HB5.out⟩
      case measure=>simp [intOf]
end
section
open Go.RowKit
theorem over_pos {x y:Int} (hx:¬ x<0) (hy:0<y):sgnd false (x.natAbs / y.natAbs)=x / y∧sgnd false (x.natAbs % y.natAbs)=x % y:=by
 obtain ⟨m,rfl⟩:∃ m:Nat,x=m:=⟨x.toNat,by omega⟩
 obtain ⟨n,rfl⟩:∃ n:Nat,y=n:=⟨y.toNat,by omega⟩
 exact ⟨by simp [sgnd],by simp [sgnd]⟩
theorem over_even {x y:Int} (hx:x<0) (hy:0<y) (h:x.natAbs % y.natAbs=0):sgnd true (x.natAbs / y.natAbs)=x / y∧x % y=0:=by
 obtain ⟨m,rfl⟩:∃ m:Nat,x = -(m:Int):=⟨x.natAbs,by omega⟩
 obtain ⟨n,rfl⟩:∃ n:Nat,y=n:=⟨y.toNat,by omega⟩
 rw [Int.natAbs_neg,Int.natAbs_natCast,Int.natAbs_natCast] at h
 have hd:(n:Int) ∣ (m:Int):=Int.natCast_dvd_natCast.2 (Nat.dvd_of_mod_eq_zero h)
 refine ⟨?_,Int.emod_eq_zero_of_dvd ((Int.dvd_neg).2 hd)⟩
 rw [Int.natAbs_neg,Int.natAbs_natCast,Int.natAbs_natCast,Int.neg_ediv_of_dvd hd]
 simp [sgnd]
theorem over_odd {x y:Int} (hx:x<0) (hy:0<y) (h:x.natAbs % y.natAbs≠0):sgnd true (x.natAbs / y.natAbs+1)=x / y∧sgnd false (y.natAbs-x.natAbs % y.natAbs)=x % y:=by
 obtain ⟨m,rfl⟩:∃ m:Nat,x = -(m:Int):=⟨x.natAbs,by omega⟩
 obtain ⟨n,rfl⟩:∃ n:Nat,y=n:=⟨y.toNat,by omega⟩
 rw [Int.natAbs_neg,Int.natAbs_natCast,Int.natAbs_natCast] at *
 have hn:0<n:=by omega
 have h1:=Nat.div_add_mod m n
 have h2:=Nat.mod_lt m hn
 generalize m % n=r at *
 generalize m / n=q at *
 have e : -(m:Int)=((n-r:Nat):Int)+n*(-(q+1:Nat):Int):=by
  have h3:((n*q+r:Nat):Int)=m:=by rw [h1]
  have h4:((n-r:Nat):Int)=(n:Int)-r:=by omega
  rw [h4,←h3];push_cast;grind
 have h5:((n-r:Nat):Int)<n:=by omega
 constructor
 ·rw [e,Int.add_mul_ediv_left _ _ (by omega),Int.ediv_eq_zero_of_lt (by omega) h5];simp [sgnd]
 ·rw [e,Int.add_mul_emod_self_left,Int.emod_eq_of_lt (by omega) h5];simp [sgnd]
theorem RBo.ext {w w':World} {base:Nat} {v:Value} {z:Int} (h:RBo w base v z) (hb:Below w.heap.size w w'):RBo w' base v z:=by
 obtain ⟨sl,h1,h2⟩:=h;exact ⟨sl,h1,h2.ext hb⟩
theorem RBo.form {w:World} {base:Nat} {v:Value} {z:Int} (h:RBo w base v z):∃ q A L c,v=.agg #[.bool q,.slice A L c]∧Hid (q=decide (z<0))∧Hid (OwnD w base (.slice A L c) (T.digits z.natAbs)):=by
 obtain ⟨sl,rfl,ho⟩:=h
 obtain ⟨A,c,rfl,-,-,-⟩:=ho.rsl
 exact ⟨_,_,_,_,rfl,hid rfl,hid ho⟩
theorem RBo.of {w:World} {base:Nat} {q:Bool} {A:Option Addr} {L c:Nat} {z:Int} (h1:Hid (q=decide (z<0))) (h2:Hid (OwnD w base (.slice A L c) (T.digits z.natAbs))):RBo w base (.agg #[.bool q,.slice A L c]) z :=
 ⟨_,by rw [h1.out],h2.out⟩
theorem len_quo {X Y:Nat} {k:Nat} (h:(T.digits X).length≤k):(T.digits (X / Y)).length≤k:=Nat.le_trans (Classical.byContradiction fun hn=>by
 have h1:=T.digits_len_lt (n:=X) (m:=X / Y) (by omega)
 have:=Nat.div_le_self X Y
 omega) h
theorem len_le {X Y:Nat} {k:Nat} (h:(T.digits X).length≤k) (hl:Y≤X):(T.digits Y).length≤k:=Nat.le_trans (Classical.byContradiction fun hn=>by
 have h1:=T.digits_len_lt (n:=X) (m:=Y) (by omega)
 omega) h
set_option maxRecDepth 100000 in
set_option maxHeartbeats 2000000 in
theorem rOver_calls (v1 v2:Value) (x y:Int) (w:World) (h1:RB w v1 x) (h2:RB w v2 y) (l1:Few x) (l2:Few y) (hy:0<y) :
 Calls Tryz.prog 187 #[v1,v2] w fun e w'=>∃ u1 u2,e=.returned (.tuple #[u1,u2])∧RBo w' w.heap.size u1 (x / y)∧RBo w' w.heap.size u2 (x % y)∧Below w.heap.size w w':=by
 obtain ⟨A,ca,rfl,hA⟩:=h1.form
 obtain ⟨B,cb,rfl,hB⟩:=h2.form
 obtain ⟨bx,hbx⟩:∃ b,decide (x<0)=b:=⟨_,rfl⟩
 obtain ⟨bY,hby⟩:∃ b,decide (y<0)=b:=⟨_,rfl⟩
 rw [hbx,hby]
 have HBX:=hid hbx
 obtain ⟨X,hX⟩:∃ X,x.natAbs=X:=⟨_,rfl⟩
 obtain ⟨Y,hY⟩:∃ Y,y.natAbs=Y:=⟨_,rfl⟩
 have hLX:(T.digits X).length≤1000000000000:=by rw [←hX];exact l1
 have hLY:(T.digits Y).length≤1000000000000:=by rw [←hY];exact l2
 rw [hX] at hA ⊢;rw [hY] at hB ⊢
 have hY0:0<Y:=by omega
 have HD:Hid (∀ w2:World,Below w.heap.size w w2→Calls Tryz.prog 223 #[.slice A (T.digits X).length ca,.slice B (T.digits Y).length cb] w2 fun e w'=>∃ v1 v2,e=.returned (.tuple #[v1,v2])∧OwnD w' w2.heap.size v1 (T.digits (X / Y))∧OwnD w' w2.heap.size v2 (T.digits (X % Y))∧Below w2.heap.size w2 w') :=
  hid fun w2 hb=>rdivD_calls A B ca cb (T.digits X) (T.digits Y) X Y w2 (T.digits_dig _) (T.val_digits _) rfl hY0 (by omega) (by omega) (hA.ext hb) (hB.ext hb)
 have HWH:Hid (∀ (neg:Bool) (A3:Option Addr) (c3 n:Nat) (w2:World),(T.digits n).length≤10000000000000→Rds w2 A3 (T.digits n)→Calls Tryz.prog 103 #[.bool neg,.slice A3 (T.digits n).length c3] w2 fun e w'=>∃ v,e=.returned v∧RBo w' w2.heap.size v (sgnd neg n)∧Below w2.heap.size w2 w') :=
  hid fun neg A3 c3 n w2 hl hR=>by
   have:=rwhole_calls neg A3 c3 (T.digits n) w2 hl (T.digits_dig _) hR
   rw [T.val_digits] at this;exact this
 obtain ⟨W,hW⟩:∃ W,((((w.alloc (.cells #[.bool bx,.slice A (T.digits X).length ca] 61 (0,0))).alloc (.cells #[.bool bY,.slice B (T.digits Y).length cb] 61 (0,0))).alloc (.cells #[.bool false,.slice none 0 0] 61 (0,0))).alloc (.cells #[.bool false,.slice none 0 0] 61 (0,0)))=W:=⟨_,rfl⟩
 have hbe:Below w.heap.size w W:=by
  rw [←hW]
  exact ((((Below.refl _ _).alloc (Nat.le_refl _) _).alloc (by simp) _).alloc (by simp;omega) _).alloc (by simp;omega) _
 have B0:Blk W w.heap.size [.bool bx,.slice A (T.digits X).length ca] 61:=by rw [←hW];exact ((Blk.alloc (Blk.alloc (Blk.new w _ _) _) _).alloc _)
 have B1:Blk W (w.heap.size+1) [.bool bY,.slice B (T.digits Y).length cb] 61:=by rw [←hW];exact ((Blk.alloc (Blk.new' _ _ _ _ (by simp)) _).alloc _)
 have B2:Blk W (w.heap.size+1+1) [.bool false,.slice none 0 0] 61:=by rw [←hW];exact (Blk.new' _ _ _ _ (by simp)).alloc _
 have B3:Blk W (w.heap.size+1+1+1) [.bool false,.slice none 0 0] 61:=by rw [←hW];exact Blk.new' _ _ _ _ (by simp)
 have HW:=hid hW;have HBE:=hid hbe
 have HLX:=hid hLX;have HLY:=hid hLY;have HY0:=hid hY0;have HYY:=hid hY;have HXX:=hid hX;have HYP:=hid hy
 have HBB:=hid hB
 clear h1 h2 hA hB l1 l2 hbx hby hX hY hLX hLY hY0 hW hbe hy
 have a0:=B0.cell 0 (by simp);have a1:=B0.cell 1 (by simp);have b0:=B1.cell 0 (by simp);have b1:=B1.cell 1 (by simp)
 simp only [List.getElem_cons_zero,List.getElem_cons_succ] at a0 a1 b0 b1
 have HB0:=hid B0;have HB1:=hid B1;have HB2:=hid B2;have HB3:=hid B3
 clear B0 B1 B2 B3
 have ne1:w.heap.size+1+1≠w.heap.size:=by omega
 have ne2:w.heap.size+1+1≠w.heap.size+1:=by omega
 have ne3:w.heap.size+1+1+1≠w.heap.size+1+1:=by omega
 go_enter Tryz.func187,Tryz.ntmps187
 go_wp2_with fail
 rw [HW.out]
 go_wp2_with fail
 refine (HD.out W HBE.out).mono ?_;rintro e w2 ⟨q,r,rfl,hq,hr,hb2⟩
 have HE2:=hid (HBE.out.trans (hb2.mono HBE.out.size))
 have B0:=HB0.out.ext hb2;have B1:=HB1.out.ext hb2;have B2:=HB2.out.ext hb2;have B3:=HB3.out.ext hb2
 obtain ⟨Aq,cq,rfl,-,-,hRq⟩:=hq.rsl
 obtain ⟨Ar,cr,rfl,-,-,hRr⟩:=hr.rsl
 have HRQ:=hid hRq;have HRR:=hid hRr
 have hB2:=HBB.out.ext HE2.out
 clear hq hr hRq hRr hb2 HD HBE HB0 HB1 HB2 HB3 HW a0 a1 b0 b1
 have a0:=B0.cell 0 (by simp);have a1:=B0.cell 1 (by simp);have b0:=B1.cell 0 (by simp);have b1:=B1.cell 1 (by simp)
 simp only [List.getElem_cons_zero,List.getElem_cons_succ] at a0 a1 b0 b1
 have HB0:=hid B0;have HB1:=hid B1;have HB2:=hid B2;have HB3:=hid B3
 clear B0 B1 B2 B3
 have HBR:=hid hB2
 clear hB2
 have HS2:=hid HE2.out.size
 have HS3:=hid (Blk.lt HB3.out)
 cases bx with
 | false =>
   have hx:¬ x<0:=by have:=HBX.out;simpa using this
   obtain ⟨e1,e2⟩:=over_pos (x:=x) (y:=y) hx HYP.out
   rw [HXX.out,HYY.out] at e1 e2
   have E1:=hid e1;have E2:=hid e2
   clear e1 e2 hx
   go_wp2_with fail
   refine (HWH.out false Aq cq (X / Y) _ (by have:=len_quo (Y:=Y) HLX.out;omega) HRQ.out).mono ?_;rintro e w3 ⟨u1,rfl,hu1,hb3⟩
   rw [E1.out] at hu1
   have HU1:=hid hu1
   have HR3:=hid (HRR.out.ext hb3)
   have HE3:=hid (ext_trans HE2.out hb3)
   have HS5:=hid hb3.size
   have B2:=HB2.out.ext hb3;have B3:=HB3.out.ext hb3
   clear hu1 hb3 HRQ HRR HE2 HB2 HB3 a0 a1 b0 b1
   have HB2:=hid B2;have HB3:=hid B3
   clear B2 B3
   go_wp2_with fail
   refine (HWH.out false Ar cr (X % Y) _ (by have:=len_le HLY.out (Nat.le_of_lt (Nat.mod_lt X HY0.out));omega) HR3.out).mono ?_;rintro e w4 ⟨u2,rfl,hu2,hb4⟩
   rw [E2.out] at hu2
   have HE4:=hid (ext_trans HE3.out hb4)
   have hu1:=HU1.out.ext hb4
   have HS4:Hid (w.heap.size+1+1+1<w2.heap.size∧w2.heap.size≤w3.heap.size):=hid ⟨HS3.out,HS5.out⟩
   have B2:=HB2.out.ext hb4;have B3:=HB3.out.ext hb4
   obtain ⟨q1,A1,L1,c1,rfl,hq1,ho1⟩:=hu1.form
   obtain ⟨q2,A2,L2,c2,rfl,hq2,ho2⟩:=hu2.form
   have hs4:=hb4.size
   have HM:Hid (w.heap.size≤w2.heap.size):=hid HS2.out
   have HM2:Hid (w.heap.size≤w3.heap.size):=hid HE3.out.size
   have k2:=HS4.out
   clear hu1 hu2 hb4 HU1 HB2 HB3
   have c0:=B2.cell 0 (by simp);have c1':=B2.cell 1 (by simp);have d0:=B3.cell 0 (by simp);have d1:=B3.cell 1 (by simp)
   simp only [List.getElem_cons_zero,List.getElem_cons_succ] at c0 c1' d0 d1
   have f0:=B2.free 0;have f1:=B2.free 1;have g0:=B3.free 0;have g1:=B3.free 1
   have bl:=B2.lt;have bl2:=B3.lt
   clear B2 B3
   go_wp2_with fail
   try simp only [Exit.inBlock,Exit.then]
   refine bodyPost_ret (v:=.tuple #[.agg #[.bool q1,.slice A1 L1 c1],.agg #[.bool q2,.slice A2 L2 c2]]) (by simp [results,Tryz.results187,go_sem,bl,bl2,c0,c1',d0,d1]) rfl ⟨_,_,rfl,RBo.of hq1 (hid ?_),RBo.of hq2 (hid ?_),((((HE4.out.setCell (by dsimp only;omega) _).setCell (by dsimp only;omega) _).setCell (by dsimp only;omega) _).setCell (by dsimp only;omega) _)⟩
   ·exact ((((ho1.out.set _ _ (by dsimp only;omega)).set _ _ (by dsimp only;omega)).set _ _ (by dsimp only;omega)).set _ _ (by dsimp only;omega)).mono HM.out
   ·exact ((((ho2.out.set _ _ (by dsimp only;omega)).set _ _ (by dsimp only;omega)).set _ _ (by dsimp only;omega)).set _ _ (by dsimp only;omega)).mono HM2.out
 | true =>
   have hx:x<0:=by have:=HBX.out;simpa using this
   have HX0:=hid hx
   clear hx
   by_cases hr0:X % Y=0
   ·have hlz:(((T.digits (X % Y)).length:Int) == 0)=true:=by rw [hr0,T.digits_zero];rfl
    obtain ⟨e1,e2⟩:=over_even (x:=x) (y:=y) HX0.out HYP.out (by rw [HXX.out,HYY.out];exact hr0)
    rw [HXX.out,HYY.out] at e1
    have E1:=hid e1;have E2:=hid e2
    clear e1 e2 hr0
    go_wp2_with fail
    refine (HWH.out true Aq cq (X / Y) _ (by have:=len_quo (Y:=Y) HLX.out;omega) HRQ.out).mono ?_;rintro e w3 ⟨u1,rfl,hu1,hb3⟩
    rw [E1.out] at hu1
    have HE4:=hid (ext_trans HE2.out hb3)
    have B2:=HB2.out.ext hb3;have B3:=HB3.out.ext hb3
    obtain ⟨q1,A1,L1,c1,rfl,hq1,ho1⟩:=hu1.form
    have HM:Hid (w.heap.size≤w2.heap.size):=hid HS2.out
    have k2:=HS3.out
    clear hu1 hb3 HRQ HRR HE2 HB2 HB3 a0 a1 b0 b1
    have c0:=B2.cell 0 (by simp);have c1':=B2.cell 1 (by simp);have d0:=B3.cell 0 (by simp);have d1:=B3.cell 1 (by simp)
    simp only [List.getElem_cons_zero,List.getElem_cons_succ] at c0 c1' d0 d1
    have f0:=B2.free 0;have f1:=B2.free 1;have g0:=B3.free 0;have g1:=B3.free 1
    have bl:=B2.lt;have bl2:=B3.lt
    clear B2 B3
    go_wp2_with fail
    try simp only [Exit.inBlock,Exit.then]
    refine bodyPost_ret (v:=.tuple #[.agg #[.bool q1,.slice A1 L1 c1],.agg #[.bool false,.slice none 0 0]]) (by simp [results,Tryz.results187,go_sem,bl,bl2,c0,c1',d0,d1]) rfl ⟨_,_,rfl,RBo.of hq1 (hid ?_),⟨.slice none 0 0,by rw [E2.out];rfl,by rw [E2.out];rw [show (0:Int).natAbs=0 from rfl,T.digits_zero];exact OwnD.nil _ _⟩,((((HE4.out.setCell (by dsimp only;omega) _).setCell (by dsimp only;omega) _).setCell (by dsimp only;omega) _).setCell (by dsimp only;omega) _)⟩
    ·exact ((((ho1.out.set _ _ (by dsimp only;omega)).set _ _ (by dsimp only;omega)).set _ _ (by dsimp only;omega)).set _ _ (by dsimp only;omega)).mono HM.out
   ·have hlz:(((T.digits (X % Y)).length:Int) == 0)=false:=by rw [T.digits_pos hr0];simp;omega
    obtain ⟨e1,e2⟩:=over_odd (x:=x) (y:=y) HX0.out HYP.out (by rw [HXX.out,HYY.out];exact hr0)
    rw [HXX.out,HYY.out] at e1 e2
    have E1:=hid e1;have E2:=hid e2
    clear e1 e2 hr0
    have HE1:Hid (Below w2.heap.size w2 (w2.alloc (.cells #[.int .i64 1] 3 (0,0))).drew):=hid ((((Below.refl _ _).alloc (Nat.le_refl _) _)).drew)
    have HAD:Hid (Calls Tryz.prog 135 #[.slice Aq (T.digits (X / Y)).length cq,.slice (some ⟨w2.heap.size,0,none⟩) 1 1] (w2.alloc (.cells #[.int .i64 1] 3 (0,0))).drew fun e w'=>∃ v ds,e=.returned v∧OwnD w' (w2.alloc (.cells #[.int .i64 1] 3 (0,0))).drew.heap.size v ds∧T.Dig ds∧T.val ds=X / Y+1∧ds.length≤10000000000000∧Below (w2.alloc (.cells #[.int .i64 1] 3 (0,0))).drew.heap.size (w2.alloc (.cells #[.int .i64 1] 3 (0,0))).drew w'):=hid (by
     have hq:=len_quo (Y:=Y) HLX.out
     refine (raddD_calls Aq (some ⟨w2.heap.size,0,none⟩) cq 1 (T.digits (X / Y)) [1] _ (T.digits_dig _) (dig_one (by omega)) (by omega) (by simp) (HRQ.out.ext HE1.out) (fun i hi=>⟨w2.heap.size,0,rfl,?_⟩)).mono ?_
     ·simp only [List.length_cons,List.length_nil,Nat.zero_add,Nat.lt_one_iff] at hi;subst hi
      exact new_cell w2 3 (.int .i64 (1:Nat)) 0 _ rfl
     ·rintro e w' ⟨v,ds,h1,h2,h3,h4,h5,h6⟩
      rw [T.val_digits,val_one] at h4
      exact ⟨v,ds,h1,h2,h3,h4,by simp at h5;omega,h6⟩)
    have HSB:Hid (∀ W3:World,Below w2.heap.size w2 W3→Rds W3 B (T.digits Y)→Calls Tryz.prog 136 #[.slice B (T.digits Y).length cb,.slice Ar (T.digits (X % Y)).length cr] W3 fun e w'=>∃ v,e=.returned v∧OwnD w' W3.heap.size v (T.digits (Y-X % Y))∧Below W3.heap.size W3 w'):=hid fun W3 hb hB=>by
     have hm:=Nat.mod_lt X HY0.out
     have h1:(T.digits (X % Y)).length≤(T.digits Y).length:=len_le (Nat.le_refl _) (Nat.le_of_lt hm)
     have:=rsubD_calls B Ar cb cr (T.digits Y) (T.digits (X % Y)) W3 (T.digits_dig _) (T.digits_dig _) (by have:=HLY.out;omega) h1 (by rw [T.val_digits,T.val_digits];omega) hB (HRR.out.ext hb)
     rw [T.val_digits,T.val_digits] at this;exact this
    go_wp2_with fail
    go_region_held3 (fun w'=>w'.cell? ⟨w.heap.size+1,1,none⟩=some (.slice B (T.digits Y).length cb))
     (first|(go_keep;done))
     (first
       | (go_at_call 135;refine HAD.out.mono ?_;rintro e w3 ⟨v3,ds,rfl,ho,hdg,hvl,hln,hb3⟩;obtain ⟨A3,c3,rfl,-,-,hR3⟩:=ho.rsl;have HE3:=hid (ext_trans HE1.out hb3);have HQ1:=HB1.out.ext HE3.out;have b1:=HQ1.cell 1 (by simp);simp only [List.getElem_cons_zero,List.getElem_cons_succ] at b1;clear ho hb3 HQ1)
       | (go_at_call 136;refine (HSB.out _ HE4.out (HBR.out.ext HE4.out)).mono ?_;rintro e w5 ⟨v5,rfl,ho,hb5⟩;obtain ⟨A5,c5,rfl,-,-,hR5⟩:=ho.rsl;have HE5:=hid (ext_trans HE4.out hb5);have HU5:=hid (HU1.out.ext hb5);have HQ1:=HB1.out.ext HE5.out;have b1:=HQ1.cell 1 (by simp);simp only [List.getElem_cons_zero,List.getElem_cons_succ] at b1;clear ho hb5 HQ1)
       | (go_at_call 103;refine (rwhole_calls true A3 c3 ds _ hln hdg hR3).mono ?_;rintro e w4 ⟨u1,rfl,hu1,hb4⟩;rw [hvl,E1.out] at hu1;have HU1:=hid hu1;have HE4:=hid (ext_trans HE3.out hb4);have HQ1:=HB1.out.ext HE4.out;have b1:=HQ1.cell 1 (by simp);simp only [List.getElem_cons_zero,List.getElem_cons_succ] at b1;clear hu1 hb4 HQ1 hR3)
       | (go_at_call 103;refine (HWH.out false A5 c5 (Y-X % Y) _ (by have:=len_le HLY.out (Nat.sub_le Y (X % Y));omega) hR5).mono ?_;rintro e w6 ⟨u2,rfl,hu2,hb6⟩;rw [E2.out] at hu2;have HE6:=hid (ext_trans HE5.out hb6);have hu1:=HU5.out.ext hb6;have HE6':=hid (HE2.out.trans (HE6.out.mono HE2.out.size));have k6:=hb6.size;obtain ⟨q1,A1,L1,c1,rfl,hq1,ho1⟩:=hu1.form;obtain ⟨q2,A2,L2,c2,rfl,hq2,ho2⟩:=hu2.form;have B2:=HB2.out.ext HE6.out;have B3:=HB3.out.ext HE6.out;have HQ1:=HB1.out.ext HE6.out;have b1:=HQ1.cell 1 (by simp);have c0:=B2.cell 0 (by simp);have c1':=B2.cell 1 (by simp);have d0:=B3.cell 0 (by simp);have d1:=B3.cell 1 (by simp);simp only [List.getElem_cons_zero,List.getElem_cons_succ] at c0 c1' d0 d1 b1;have f0:=B2.free 0;have f1:=B2.free 1;have g0:=B3.free 0;have g1:=B3.free 1;have bl:=B2.lt;have bl2:=B3.lt;clear hu1 hu2 hb6 B2 B3 HQ1))
    all_goals
     have k1:=HS3.out
     have k2:=HE3.out.size
     have k3:=HE5.out.size
     have k4:=HE1.out.size
     have k5:=HS2.out
     go_wp2_with fail
     try simp only [Exit.inBlock,Exit.then]
     refine bodyPost_ret (v:=.tuple #[.agg #[.bool q1,.slice A1 L1 c1],.agg #[.bool q2,.slice A2 L2 c2]]) (by simp [results,Tryz.results187,go_sem,bl,bl2,c0,c1',d0,d1]) rfl ⟨_,_,rfl,RBo.of hq1 (hid ?_),RBo.of hq2 (hid ?_),((((HE6'.out.setCell (by dsimp only;omega) _).setCell (by dsimp only;omega) _).setCell (by dsimp only;omega) _).setCell (by dsimp only;omega) _)⟩
     ·exact ((((ho1.out.set _ _ (by dsimp only;omega)).set _ _ (by dsimp only;omega)).set _ _ (by dsimp only;omega)).set _ _ (by dsimp only;omega)).mono (by omega)
     ·exact ((((ho2.out.set _ _ (by dsimp only;omega)).set _ _ (by dsimp only;omega)).set _ _ (by dsimp only;omega)).set _ _ (by dsimp only;omega)).mono (by omega)
end
end Go.Proofs.YtkljafmdbajfeaaGreatDoor
