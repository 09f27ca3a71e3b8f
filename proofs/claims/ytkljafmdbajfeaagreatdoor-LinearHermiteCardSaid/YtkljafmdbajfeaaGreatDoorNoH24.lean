/- Package exact: Lat, the lattice of some vectors. -/
import Derived.Test.YtkljafmdbajfeaaGreatDoorNoH17
import Derived.Test.YtkljafmdbajfeaaGreatDoorNoH23
namespace Go.Proofs.YtkljafmdbajfeaaGreatDoor
set_option linter.unusedVariables false
set_option linter.unusedSimpArgs false
open Go.Lib (hid)
section
open Go.RowKit Go.ChangeMaps
open Lp (Lt V Ech BdV Bd pivots lv cnt Gen From With)
theorem big_len {n k:Nat} (h:n<4294967296 ^ k):(digits n).length≤k:=by
 by_cases h0:n=0
 ·subst h0;rw [digits_zero];exact Nat.zero_le _
 ·have h1:=digits_ge h0
  have h2:4294967296 ^ ((digits n).length-1)<4294967296 ^ k:=Nat.lt_of_le_of_lt h1 h
  have h3:(digits n).length-1<k:=(Nat.pow_lt_pow_iff_right (by omega)).1 h2
  omega
theorem lv_pow (X:Nat):∀ k,3*lv X k≤(3*X) ^ (2 ^ k)
 | 0=>by simp [lv]
 | k+1=>by
   have h:=lv_pow X k
   have h2:=Nat.mul_le_mul h h
   rw [←Nat.pow_add] at h2
   have e:2 ^ k+2 ^ k=2 ^ (k+1):=by rw [Nat.pow_succ];omega
   rw [e] at h2
   have e2:3*lv X (k+1)=3*lv X k*(3*lv X k):=by
    simp only [lv]
    rw [Nat.mul_assoc 3 (lv X k),Nat.mul_left_comm (lv X k) 3]
   omega
theorem wide_of_lv {X k:Nat} (hX:3*X≤4294967296) (h0:0<X) (hk:2 ^ k≤100000000) {z:Int} (hz:z.natAbs≤lv X k):Wide z:=by
 have h1:=lv_pow X k
 have h2:(3*X) ^ (2 ^ k)≤4294967296 ^ (2 ^ k):=Nat.pow_le_pow_left hX _
 have h3:=Lp.lv_pos h0 k
 have h4:z.natAbs<4294967296 ^ (2 ^ k):=by
  generalize 4294967296 ^ (2 ^ k)=B at *
  generalize (3*X) ^ (2 ^ k)=C at *
  omega
 exact Nat.le_trans (big_len h4) hk
theorem lv_add (X:Nat):∀ a b,lv (lv X a) b=lv X (a+b)
 | a,0=>rfl
 | a,b+1=>by
   have h:=lv_add X a b
   show 3*(lv (lv X a) b*lv (lv X a) b)=3*(lv X (a+b)*lv X (a+b))
   rw [h]
def tri:Nat→Nat
 | 0=>0
 | j+1=>tri j+j
theorem tri_mono {i j:Nat} (h:i≤j):tri i≤tri j:=by
 induction j with
 | zero=>have:i=0:=by omega
         subst this;exact Nat.le_refl _
 | succ j ih =>
   rcases Nat.lt_or_ge i (j+1) with h1|h1
   ·have:=ih (by omega);simp only [tri];omega
   ·have:i=j+1:=by omega
    subst this;exact Nat.le_refl _
def VecsP (w:World) (A:Option Addr) (n:Nat) (fs:List V):Prop :=
 ∀ i,∀ hi:i<fs.length,∃ b o v,A=some ⟨b,o,none⟩∧w.cell? ⟨b,o+i,none⟩=some v∧VecP w v n fs[i]
theorem VecsP.ext {w w':World} {A:Option Addr} {n:Nat} {fs:List V} (h:VecsP w A n fs) (hb:Below w.heap.size w w'):VecsP w' A n fs:=fun i hi=>by
 obtain ⟨b,o,v,e,hc,hv⟩:=h i hi
 exact ⟨b,o,v,e,(hb.cell (p:=⟨b,o+i,none⟩) (cell_lt hc)).trans hc,hv.ext hb⟩
theorem gen_with {L:Lt} {R:V→Prop} {f:V} (h:∀ x,Gen (From L 0) x↔Gen R x) (x:V):Gen (With L f) x↔Gen (fun r=>R r∨r=f) x:=by
 constructor
 ·refine Gen.lift fun r hr=>?_
  rcases hr with hr|rfl
  ·exact ((h r).1 (.one hr)).lift fun s hs=>.one (.inl hs)
  ·exact .one (.inr rfl)
 ·refine Gen.lift fun r hr=>?_
  rcases hr with hr|rfl
  ·exact ((h r).2 (.one hr)).lift fun s hs=>.one (.inl hs)
  ·exact .one (.inr rfl)
theorem gen_iff {R S:V→Prop} (h:∀ r,R r↔S r) (x:V):Gen R x↔Gen S x:=by
 have:R=S:=funext fun r=>propext (h r)
 rw [this]
theorem run_newMap (w:World):(Instr.makeMap 164 none).run Tryz.prog w=.ok (.map (some w.heap.size)) (w.alloc (.map #[] 0)):=by kernel_rfl
set_option maxRecDepth 100000 in
set_option maxHeartbeats 4000000 in
theorem lat_calls (n X:Nat) (fs:List V) (A:Option Addr) (c:Nat) (w:World) (h:VecsP w A n fs) (h0:0<n) (hn:n≤1000) (hl:fs.length≤1000) (hh:∀ f∈fs,∀ i,n≤i→f i=0) (hb:∀ f∈fs,BdV X f) (hX:0<X)
 (hw:∀ z:Int,z.natAbs≤lv X (tri fs.length+fs.length)→Wide z) :
 Calls Tryz.prog 82 #[.int .i64 n,.slice A fs.length c] w fun e w'=>∃ L M rows,e=.returned (.pointer (some ⟨L,0,none⟩))∧w.heap.size≤L∧w.heap.size≤M∧LatP w' L M n rows∧Ech n rows∧Lp.Red rows∧(∀ x,Gen (From rows 0) x↔Gen (·∈fs) x)∧cnt rows n≤fs.length∧Bd (lv X (tri fs.length+fs.length)) rows∧Below w.heap.size w w':=by
 have HH:=hid h
 clear h
 have hmm:=run_newMap
 go_enter Tryz.func82,Tryz.ntmps82
 go_wp2_with fail
 have hm0:=MapIs.made w
 have hA2:Below w.heap.size w ((w.alloc (.map #[] 0)).alloc (.cells #[.int .i64 n,.map (some w.heap.size)] 166 (0,0))):=((Below.refl _ _).alloc (Nat.le_refl _) _).alloc (by simp) _
 have hbl:=Blk.new (w.alloc (.map #[] 0)) [.int .i64 n,.map (some w.heap.size)] 166
 rw [show (w.alloc (.map #[] 0)).heap.size=w.heap.size+1 by simp] at hbl
 have hl0:LatP ((w.alloc (.map #[] 0)).alloc (.cells #[.int .i64 n,.map (some w.heap.size)] 166 (0,0))) (w.heap.size+1) w.heap.size n (fun _=>none) :=
  ⟨hbl.cell 0 (by simp),hbl.cell 1 (by simp),_,hm0.ext ((Below.refl _ _).alloc (Nat.le_refl _) _),fun p hp=>.inl ⟨rfl,rfl⟩⟩
 have hcn0:∀ k,cnt (fun _=>none) k=0:=fun k=>by
  induction k with
  | zero=>rfl
  | succ k ih=>simp [cnt,ih]
 have HL0:=hid hl0;have HA2:=hid hA2
 have HI0:Hid (Ech n (fun _=>none)∧cnt (fun _=>none) n≤0∧Bd (lv X (tri 0)) (fun _=>none)∧∀ x,Gen (From (fun _=>none) 0) x↔Gen (·∈fs.take 0) x):=hid ⟨⟨fun p r h=>(by cases h),fun p r h=>(by cases h),fun p r h=>(by cases h),fun p r h=>(by cases h)⟩,by rw [hcn0];omega,fun p r h=>(by cases h),fun x=>gen_iff (fun r=>⟨fun ⟨q,_,h⟩=>(by cases h),fun h=>(by simp at h)⟩) x⟩
 clear hm0 hbl hl0 hcn0 hA2
 go_loopw [14] (fun ti wr=>∃ (j:Nat) (rows:Lt),j≤fs.length∧ti=.int .i64 j∧Hid (LatP wr (w.heap.size+1) w.heap.size n rows)∧Hid (Ech n rows∧cnt rows n≤j∧Bd (lv X (tri j)) rows∧∀ x,Gen (From rows 0) x↔Gen (·∈fs.take j) x)∧Hid (Below w.heap.size w wr)) (fun ti _=>fs.length-(intOf ti).toNat)
 case atStart=>exact ⟨0,_,Nat.zero_le _,rfl,HL0,HI0,HA2⟩
 case round =>
  clear HL0 HI0 HA2
  obtain ⟨j,rows,hj,rfl,hl1,hI,hbe⟩:=hrel
  by_cases hlt:j<fs.length
  ·have hn1:(j:Int)<fs.length:=by omega
   obtain ⟨b,o,v,rfl,hc,hv⟩:=(HH.out.ext hbe.out) j hlt
   have hA:Below wr.heap.size wr (wr.alloc (.cells #[] 150 (0,0))):=(Below.refl _ _).alloc (Nat.le_refl _) _
   have hfj:fs[j]∈fs:=List.getElem_mem hlt
   have HV:=hid (hv.ext hA);have HA:=hid hA
   clear hv hA
   go_wp2_with (at_builtin;refine wpList_copy rfl _ _ rfl rfl _ n fs[j] v rfl rfl HV.out h0 hn ?_)
   intro c2 w2 hc1 hc2 hO hb2
   have hb12:=HA.out.trans (hb2.mono (by omega))
   have htr:tri j+cnt rows n≤tri fs.length+fs.length:=by
    have h1:=hI.out.2.1
    have h2:tri (j+1)≤tri fs.length:=tri_mono (by omega)
    simp only [tri] at h2;omega
   have hwj:∀ z:Int,z.natAbs≤lv (lv X (tri j)) (cnt rows n)→Wide z:=fun z hz=>by
    rw [lv_add] at hz
    exact wide_lv hw hX htr hz
   have hins:=insert_calls (w.heap.size+1) w.heap.size n (lv X (tri j)) rows fs[j] _ w2 (hl1.out.ext hb12) (hO.vec hc1 hc2).vec hn hI.out.1 (hh _ hfj) hI.out.2.2.1 ((hb _ hfj).mono (Lp.lv_mono hX (Nat.zero_le _))) (Lp.lv_pos hX _) hwj
   have HINS:=hid hins
   have HB2:=hid (hbe.out.trans (hb12.mono hbe.out.size))
   clear hins hO hb2 hb12 hwj htr HV HA
   go_wp2_with fail
   refine HINS.out.mono ?_;rintro e w3 ⟨rfl,rows',hl3,hi3,hb3⟩
   have HL3:=hid hl3
   have HI3:Hid (Ech n rows'∧cnt rows' n≤j+1∧Bd (lv X (tri (j+1))) rows'∧∀ x,Gen (From rows' 0) x↔Gen (·∈fs.take (j+1)) x):=by
    refine hid ⟨hi3.ech,by have:=hi3.cnt;have:=hI.out.2.1;omega,?_,fun x=>?_⟩
    ·have h1:=hi3.bd
     rw [lv_add] at h1
     exact h1.mono (Lp.lv_mono hX (by have:=hI.out.2.1;simp only [tri];omega))
    ·refine (hi3.gen x).trans ((gen_with hI.out.2.2.2 x).trans (gen_iff (fun r=>?_) x))
     rw [List.take_succ_eq_append_getElem hlt,List.mem_append,List.mem_singleton]
   have HB3:=hid (HB2.out.trans (hb3.below (Nat.le_refl _) HB2.out.size))
   clear hl3 hi3 hb3 HINS HB2
   go_wp2
   go_roundw
   case rel=>exact ⟨j+1,rows',by omega,by go_num,HL3,HI3,HB3⟩
   case measure=>simp [intOf];omega
  ·obtain rfl:j=fs.length:=by omega
   obtain ⟨i1,i2,i3,i4⟩:=hI.out
   have htd:=tidy_calls (w.heap.size+1) w.heap.size n (lv X (tri fs.length)) rows wr hl1.out h0 hn i1 i3 (Lp.lv_pos hX _) (fun z hz=>by
    rw [lv_add] at hz
    exact wide_lv hw hX (by omega) hz)
   have HTD:=hid htd
   clear htd
   go_wp2_with fail
   refine HTD.out.mono ?_;rintro e w3 ⟨rfl,rows',hl3,t1,t2,t3,t4,t5,hb3⟩
   go_wp2
   go_ret
   refine ⟨_,w.heap.size,rows',rfl,by omega,Nat.le_refl _,hl3,t1,t2,fun x=>?_,?_,?_,hbe.out.trans (hb3.below (Nat.le_refl _) hbe.out.size)⟩
   ·rw [t4 x,i4 x,List.take_length]
   ·rw [Lp.cnt_congr (L:=rows') (M:=rows) fun q _=>t3 q];exact i2
   ·rw [lv_add] at t5
    exact t5.mono (Lp.lv_mono hX (by omega))
end
section
open Go.RowKit Go.ChangeMaps
def AllC (Q:Value→Prop) (w:World) (g:Nat):Prop:=∀ o x,w.cell? ⟨g,o,none⟩=some x→Q x
def OwnC (Q:Value→Prop) (w:World) (v:Value):Prop:=∀ g,v.ownBlock=some g→AllC Q w g
theorem AllC.same {Q:Value→Prop} {w w':World} {g:Nat} (h:AllC Q w g) (hb:w'.heap[g]? = w.heap[g]?):AllC Q w' g:=fun o x e=>h o x (by rw [←e];exact (World.cell?_of_block (a:=⟨g,o,none⟩) hb).symm)
theorem AllC.made {Q:Value→Prop} {w:World} {g:Nat} {cs:Array Value} {e:TypeId} (h:w.heap[g]? = some (.cells cs e (0,0))) (hq:∀ x∈cs,Q x):AllC Q w g:=fun o x hx=>by
 simp only [World.cell?,h] at hx
 simp at hx
 obtain ⟨hl,rfl⟩:=Array.getElem?_eq_some_iff.1 hx
 exact hq _ (Array.getElem_mem hl)
theorem run_append_all {Q:Value→Prop} {w:World} (base:Nat) (t ty e:TypeId) (i:TypeInfo) (z:Value) (bytes:Nat) (ht:Tryz.prog.underlying t=some (.slice e)) (hi:Tryz.prog.info? e=some i) (hz:i.zero=some z)
 (hsize:i.size=1) (hby:i.bytes=bytes) (hzs:z.cells=#[z]) (hQz:Q z)
 (v:Value) (n:Nat) (xs:List Value) (hown:w.ownsRow base e 1 v n xs) (hall:OwnC Q w v)
 (a:Addr) (m c:Nat) (news:List Value) (hl:news.length=m) (hnews:∀ j u,news[j]? = some u→w.cell? (a.add j)=some u) (h1:∀ u∈news,u.oneCell'=true) (hQn:∀ u∈news,Q u)
 (h0:0<m) (h63:n+m≤maxLen) (hbytes:(n+m)*bytes≤140737488355328) (hbase:base≤w.heap.size) :
 ∃ v' w',(Builtin.append_ #[t,t] ty #[v,.slice (some a) m c]).run Tryz.prog w=.ok v' w'∧w'.ownsRow base e 1 v' (n+m) (xs ++ news)∧w.grownBy w' v.ownBlock∧OwnC Q w' v':=by
 obtain ⟨v',w',hr,ho,hg,-⟩:=run_append_own (P:=Tryz.prog) w base t ty e i z 1 bytes ht hi hz hsize hby (by rw [hzs];rfl) (by omega) v n xs hown a m c news (by rw [hl,Nat.mul_one]) hnews h1 h63 hbytes hbase
 refine ⟨v',w',hr,ho,hg,?_⟩
 have hzc:∀ k,∀ x∈Builtin.zeroCells z.cells k,Q x:=fun k x hx=>by
  rw [Builtin.zeroCells,Array.mem_map] at hx
  obtain ⟨q,-,rfl⟩:=hx
  rw [hzs]
  simpa [Nat.mod_one] using hQz
 subst hl
 rcases hown.2 with ⟨rfl,rfl⟩|⟨g,cap,cur,rfl,hbg,hgh,hnc,hcm,hcs,htake⟩
 ·have hn:=run_append_nil (P:=Tryz.prog) w t ty e i z ht hi hz a news.length c news (by rw [hsize,Nat.mul_one]) hnews h0 (by simp only [maxLen] at h63;omega) (by rw [hby];have hb:=hbytes;simp only [Nat.zero_add] at hb;omega)
  rw [hn] at hr
  injection hr with e1 e2
  subst e1;subst e2
  intro g hg
  simp [Value.ownBlock] at hg
  subst hg
  refine AllC.made (heap_alloc_new w.drew _) fun x hx=>?_
  rcases Array.mem_append.1 hx with h|h
  ·exact hQn x (by simpa using h)
  ·exact hzc _ x h
 ·have hall':∀ x∈cur,Q x:=fun x hx=>by
   obtain ⟨o,ho,rfl⟩:=Array.getElem_of_mem hx
   refine hall g rfl o _ ?_
   simp [World.cell?,hgh,ho]
  by_cases hroom:n+news.length≤cap
  ·have hrm:=run_append_room (P:=Tryz.prog) w t ty e i ht hi g n cap cur hgh a news.length c news (by rw [hsize,Nat.mul_one]) hnews h1 hroom (by rw [hsize];omega)
   rw [hrm] at hr
   injection hr with e1 e2
   subst e1;subst e2
   intro g' hg'
   simp [Value.ownBlock] at hg'
   subst hg'
   refine AllC.made (setRow_heap w g cur _ e _ hgh) fun x hx=>?_
   rw [List.mem_toArray,List.mem_append,List.mem_append] at hx
   rcases hx with (h|h)|h
   ·exact hall' x (by simpa using List.mem_of_mem_take h)
   ·exact hQn x h
   ·exact hall' x (by simpa using List.mem_of_mem_drop h)
  ·have holds:∀ j u,xs[j]? = some u→w.cell? ((⟨g,0,none⟩:Addr).add j)=some u:=hown.cells (g:=g) rfl
   have hgr:=run_append_grow (P:=Tryz.prog) w t ty e i z ht hi hz ⟨g,0,none⟩ n cap xs (by rw [hsize];exact hown.1) holds a news.length c news (by rw [hsize,Nat.mul_one]) hnews (by omega) (by simp only [maxLen] at h63;omega) (by rw [hby];exact growslice_fits (by omega) hbytes)
   rw [hgr] at hr
   injection hr with e1 e2
   subst e1;subst e2
   intro g' hg'
   simp [Value.ownBlock] at hg'
   subst hg'
   refine AllC.made (heap_alloc_new w.drew _) fun x hx=>?_
   rcases Array.mem_append.1 hx with h|h
   ·rcases Array.mem_append.1 h with h2|h2
    ·have:x∈xs:=by simpa using h2
     rw [←htake] at this
     exact hall' x (by simpa using List.mem_of_mem_take this)
    ·exact hQn x (by simpa using h2)
   ·exact hzc _ x h
theorem wpList_append_all {ops:Array Oper} {rest:List Oper} {o:Oper} {a:Act} {R:Exit→Act→World→Prop} {w:World} (Q:Value→Prop) (hgd:o.guard=none) (s x:Operand) (t:TypeId)
 (ho:o.op=.call { callee:=.builtin .append,args:=#[s,x],argTypes:=#[t,t] })
 (base:Nat) (e:TypeId) (i:TypeInfo) (z:Value) (bytes:Nat) (ht:Tryz.prog.underlying t=some (.slice e)) (hi:Tryz.prog.info? e=some i) (hz:i.zero=some z)
 (hsize:i.size=1) (hby:i.bytes=bytes) (hzs:z.cells=#[z]) (hQz:Q z)
 (v:Value) (n:Nat) (xs:List Value) (hs:a.eval s=v) (hown:w.ownsRow base e 1 v n xs) (hall:OwnC Q w v)
 (ad:Addr) (m c:Nat) (news:List Value) (hx:a.eval x=.slice (some ad) m c) (hl:news.length=m) (hnews:∀ j u,news[j]? = some u→w.cell? (ad.add j)=some u) (h1:∀ u∈news,u.oneCell'=true) (hQn:∀ u∈news,Q u)
 (h0:0<m) (h63:n+m≤maxLen) (hbytes:(n+m)*bytes≤140737488355328) (hbase:base≤w.heap.size)
 (h:∀ v' w',w'.ownsRow base e 1 v' (n+m) (xs ++ news)→w.grownBy w' v.ownBlock→OwnC Q w' v'→wpList Tryz.prog ops R rest (a.put o.dst v') w'):wpList Tryz.prog ops R (o :: rest) a w :=
 wpList_plain hgd fun K hK=>by
  obtain ⟨v',w',hr,h2,h3,h4⟩:=run_append_all (w:=w) base t o.type e i z bytes ht hi hz hsize hby hzs hQz v n xs hown hall ad m c news hl hnews h1 hQn h0 h63 hbytes hbase
  unfold Oper.wp execOp
  simp only [ho,resolve,invoke,builtin,Sem.run_bind,Sem.run_pure,Result.andThen_ok,List.map_toArray,List.map_cons,List.map_nil,hs,hx,hr]
  exact hK _ _ (h v' w' h2 h3 h4)
theorem OwnC.nil (Q:Value→Prop) (w:World) (n c:Nat):OwnC Q w (.slice none n c):=fun g h=>by simp [Value.ownBlock] at h
theorem OwnC.ext {Q:Value→Prop} {w w':World} {base size n:Nat} {e:TypeId} {v:Value} {xs:List Value} (h:OwnC Q w v) (ho:w.ownsRow base e size v n xs) (hb:Below w.heap.size w w'):OwnC Q w' v:=fun g hg=>(h g hg).same (hb.block g (World.ownsRow.lt ho g hg).2)
theorem BigP.grown {Q:Value→Prop} {w w':World} {v:Value} {p:Nat} {z:Int} (h:BigP w p z) (hq:OwnC Q w v) (hQ:∀ x,Q x→(∀ b,x≠.bool b)∧∀ k n,x≠.int k n) (hg:w.grownBy w' v.ownBlock):BigP w' p z:=by
 obtain ⟨h0,u,h1,h2,A,c,h3,h4,h5,h6⟩:=h
 have hblk:∀ b o x,w.cell? ⟨b,o,none⟩=some x→¬ Q x→w'.heap[b]? = w.heap[b]? := fun b o x hc hx =>
  hg.block b (cell_lt hc) (fun e=>hx (hq b e.symm o x hc))
 have hp:w'.heap[p]? = w.heap[p]? := hblk p 0 _ h1 (fun hx=>(hQ _ hx).1 _ rfl)
 refine ⟨h0.same hp,u,(World.cell?_of_block (a:=⟨p,0,none⟩) hp).trans h1,(World.cell?_of_block (a:=⟨p,1,none⟩) hp).trans h2,A,c,h3,h4,h5,fun i hi=>?_⟩
 obtain ⟨b,off,e,hc⟩:=h6 i hi
 exact ⟨b,off,e,(World.cell?_of_block (a:=⟨b,off+i,none⟩) (hblk b _ _ hc (fun hx=>(hQ _ hx).2 _ _ rfl))).trans hc⟩
theorem VecX.grown {X:Nat→Prop} {w w':World} {v u:Value} {n:Nat} {f:Nat→Int} (h:VecX X w u n f) {Q:Value→Prop} (hq:OwnC Q w v) (hQ:∀ x,Q x→(∀ b,x≠.bool b)∧∀ k n,x≠.int k n) (hP:∀ x,Q x→∀ a,x≠.pointer a) (hg:w.grownBy w' v.ownBlock):VecX X w' u n f:=by
 obtain ⟨A,c,h1,h2,h3,h4⟩:=h
 refine ⟨A,c,h1,h2,h3,fun i hi=>?_⟩
 obtain ⟨a,o,p,e,hx,hc,hz⟩:=h4 i hi
 have hb:w'.heap[a]? = w.heap[a]? := hg.block a (cell_lt hc) (fun e=>hP _ (hq a e.symm _ _ hc) _ rfl)
 exact ⟨a,o,p,e,hx,(World.cell?_of_block (a:=⟨a,o+i,none⟩) hb).trans hc,hz.grown hq hQ hg⟩
def isPtr (x:Value):Prop:=∃ a,x=.pointer a
def isSl (x:Value):Prop:=∃ A n c,x=.slice A n c
theorem isPtr_no (x:Value) (h:isPtr x):(∀ b,x≠.bool b)∧∀ k n,x≠.int k n:=by
 obtain ⟨a,rfl⟩:=h;exact ⟨fun b e=>(by cases e),fun k n e=>(by cases e)⟩
theorem isSl_no (x:Value) (h:isSl x):(∀ b,x≠.bool b)∧∀ k n,x≠.int k n:=by
 obtain ⟨A,n,c,rfl⟩:=h;exact ⟨fun b e=>(by cases e),fun k n e=>(by cases e)⟩
theorem isSl_noP (x:Value) (h:isSl x):∀ a,x≠.pointer a:=by
 obtain ⟨A,n,c,rfl⟩:=h;exact fun a e=>(by cases e)
end
section
open Go.RowKit Go.ChangeMaps
def pv (p:Nat):Value:=.pointer (some ⟨p,0,none⟩)
theorem nth_beyond {xs:List Int} {i:Nat} (h:xs.length≤i):nth xs i=0:=by
 unfold nth;rw [List.getD_eq_getElem?_getD,List.getElem?_eq_none h];rfl
structure PRow (w:World) (base:Nat) (v:Value) (i:Nat) (xs:List Int):Prop where
 ex:∃ ps:List Nat,ps.length=i∧w.ownsRow base 150 1 v i (ps.map pv)∧OwnC isPtr w v∧∀ j,∀ hj:j<ps.length,BigP w ps[j] (nth xs j)
theorem PRow.ext {w w':World} {base i:Nat} {v:Value} {xs:List Int} (h:PRow w base v i xs) (hb:Below w.heap.size w w'):PRow w' base v i xs:=by
 obtain ⟨ps,h1,h2,h4,h3⟩:=h.ex
 exact ⟨ps,h1,own_ext h2 hb,h4.ext h2 hb,fun j hj=>(h3 j hj).ext hb⟩
theorem PRow.vec {w:World} {base i:Nat} {v:Value} {xs:List Int} (h:PRow w base v i xs):VecP w v i (nth xs):=by
 obtain ⟨ps,h1,h2,-,h3⟩:=h.ex
 obtain ⟨-,h4⟩:=id h2
 rcases h4 with ⟨rfl,h0⟩|⟨g,cap,cur,rfl,hg,hh,h5,h6,_⟩
 ·subst h0;exact ⟨none,0,rfl,Nat.le_refl _,Nat.zero_le _,fun i hi=>by omega⟩
 ·refine ⟨_,cap,rfl,h5,h6,fun j hj=>⟨g,0,ps[j]'(by omega),rfl,trivial,?_,h3 j (by omega)⟩⟩
  rw [Nat.zero_add,h2.cellAt j (by omega)]
  simp [pv,h1,hj]
set_option maxRecDepth 100000 in
set_option maxHeartbeats 2000000 in
theorem vecOf_calls (A:Option Addr) (c:Nat) (xs:List Int) (w:World) (h:Ints w A xs) (hl:xs.length≤1000) (hr:∀ x∈xs,-9223372036854775808≤x∧x≤9223372036854775807) :
 Calls Tryz.prog 90 #[.slice A xs.length c] w fun e w'=>∃ v,e=.returned v∧VecP w' v xs.length (nth xs)∧Below w.heap.size w w':=by
 obtain ⟨i0,hi0,hz0,hz1,hz2⟩:=info_parts infoPtr
 have HH:=hid h
 have HR:Hid (∀ x∈xs,-9223372036854775808≤x∧x≤9223372036854775807):=hid hr
 clear h hr
 go_enter Tryz.func90,Tryz.ntmps90
 go_wp2
 go_loopw [3,8] (fun tv ti wr=>∃ (i:Nat),i≤xs.length∧ti=.int .i64 i∧Hid (PRow wr w.heap.size tv i xs)∧Hid (Below w.heap.size w wr)) (fun _ ti _=>xs.length-(intOf ti).toNat)
 case atStart=>exact ⟨0,Nat.zero_le _,rfl,hid ⟨[],rfl,World.ownsRow_nil _ _ _ _,OwnC.nil _ _ _ _,fun j hj=>by simp at hj⟩,hid (Below.refl _ _)⟩
 case round =>
  obtain ⟨i,hi,rfl,hP,hbe⟩:=hrel
  by_cases hlt:i<xs.length
  ·have hn1:(i:Int)<xs.length:=by omega
   obtain ⟨b,o,rfl,hc⟩:=(HH.out.ext hbe.out) i hlt
   have hm:=HR.out _ (List.getElem_mem hlt)
   rw [←nth_lt hlt] at hm
   have hnew:=newInt_calls (nth xs i) wr hm.1 hm.2
   have HNEW:=hid hnew
   obtain ⟨ps0,-,hq2,-⟩:=hP.out.ex
   obtain ⟨A3,c3,rfl,hc3,hc4⟩:=own_size hq2
   clear hm hnew hq2
   go_wp2_with fail
   refine HNEW.out.mono ?_;rintro e w2 ⟨p,rfl,hp,hz,hb2⟩
   have hA:Below w2.heap.size w2 (w2.alloc (.cells #[.pointer (some ⟨p,0,none⟩)] 150 (0,0))):=(Below.refl _ _).alloc (Nat.le_refl _) _
   have hB:=Blk.new w2 [.pointer (some ⟨p,0,none⟩)] 150
   have hP2:=(hP.out.ext hb2).ext hA
   obtain ⟨ps,hps1,hps2,hps4,hps3⟩:=hP2.ex
   have HO1:=hid hps2;have HC1:=hid hps4;have HBL:=hid hB;have HA:=hid hA;have H3:=hid hps3;have HZ:=hid (hz.ext hA);have HB2:=hid hb2
   have hsz:=hbe.out.size
   have hsz2:=hb2.size
   clear hP2 hps2 hps3 hps4 hB hA hz hb2 HNEW
   go_wp2_with (at_builtin;refine wpList_append_all isPtr rfl _ _ 112 rfl w.heap.size 150 i0 (.pointer none) 8 Tryz.underlying112 hi0 hz0 hz1 hz2 rfl ⟨_,rfl⟩ _ _ _ rfl HO1.out HC1.out ⟨w2.heap.size,0,none⟩ 1 1 [.pointer (some ⟨p,0,none⟩)] rfl ?qc1 ?qc2 ?qc3 ?qc7 ?qc8 ?qc4 ?qc5 ?qc6 ?_)
   case qc1=>rfl
   case qc2 =>
    intro j u hj
    cases j with
    | zero=>simp at hj;subst hj;exact HBL.out.cell 0 (by simp)
    | succ j=>simp at hj
   case qc3=>intro u hu;simp at hu;subst hu;rfl
   case qc7=>intro u hu;simp at hu;subst hu;exact ⟨_,rfl⟩
   case qc8=>omega
   case qc4=>unfold maxLen;omega
   case qc5=>omega
   case qc6=>simp;omega
   intro v' w3 hown' hgrow hoc
   have hb23:Below w.heap.size w2 w3:=((HA.out.mono (by omega)).grown hgrow (by simp;omega) (own_block HO1.out))
   have hP3:PRow w3 w.heap.size v' (i+1) xs:=by
    refine ⟨ps ++ [p],by simp [hps1],by simpa [pv] using hown',hoc,fun j hj=>?_⟩
    rw [List.getElem_append]
    split
    ·rename_i h1;exact (H3.out j h1).grown HC1.out isPtr_no hgrow
    ·rename_i h1
     have:j=i:=by simp at hj;omega
     subst this
     simp only [hps1,Nat.sub_self,List.getElem_cons_zero]
     exact HZ.out.grown HC1.out isPtr_no hgrow
   have HP3:=hid hP3;have HB3:=hid ((hbe.out.trans (HB2.out.mono hsz)).trans hb23)
   clear hown' hgrow hoc hP3 hb23 HO1
   go_wp2
   go_roundw
   case rel=>exact ⟨i+1,by omega,by go_num,HP3,HB3⟩
   case measure=>simp [intOf];omega
  ·obtain rfl:i=xs.length:=by omega
   go_wp2
   go_ret
   exact ⟨_,rfl,hP.out.vec,hbe.out⟩
end
section
open Go.RowKit Go.ChangeMaps
open Lp (Lt V Ech BdV Bd pivots lv cnt)
theorem infoVec:(Tryz.prog.info? 112).map (fun i=>(i.zero,i.size,i.bytes))=some (some (.slice none 0 0),1,24):=by kernel_rfl
structure VRow (w:World) (base:Nat) (v:Value) (i n:Nat) (fs:List V):Prop where
 ex:∃ vs:List Value,vs.length=i∧w.ownsRow base 112 1 v i vs∧OwnC isSl w v∧∀ j,∀ hj:j<vs.length,∃ hf:j<fs.length,VecP w vs[j] n fs[j]
theorem VRow.ext {w w':World} {base i n:Nat} {v:Value} {fs:List V} (h:VRow w base v i n fs) (hb:Below w.heap.size w w'):VRow w' base v i n fs:=by
 obtain ⟨vs,h1,h2,h4,h3⟩:=h.ex
 exact ⟨vs,h1,own_ext h2 hb,h4.ext h2 hb,fun j hj=>by obtain ⟨hf,h⟩:=h3 j hj;exact ⟨hf,h.ext hb⟩⟩
theorem VRow.vecs {w:World} {base n:Nat} {v:Value} {fs:List V} (h:VRow w base v fs.length n fs):∃ A c,v=.slice A fs.length c∧fs.length≤c∧c≤maxLen∧VecsP w A n fs:=by
 obtain ⟨vs,h1,h2,-,h3⟩:=h.ex
 obtain ⟨-,h4⟩:=id h2
 rcases h4 with ⟨rfl,h0⟩|⟨g,cap,cur,rfl,hg,hh,h5,h6,_⟩
 ·exact ⟨none,0,by rw [h0],by omega,Nat.zero_le _,fun i hi=>by omega⟩
 ·refine ⟨_,cap,rfl,h5,h6,fun j hj=>⟨g,0,vs[j]'(by omega),rfl,?_,(h3 j (by omega)).2⟩⟩
  rw [Nat.zero_add,h2.cellAt j (by omega)]
  simp [h1,hj]
theorem VRow.push {w w':World} {base i n:Nat} {v v' x:Value} {fs:List V} {vs:List Value} (h1:vs.length=i) (h4:OwnC isSl w v) (h3:∀ j,∀ hj:j<vs.length,∃ hf:j<fs.length,VecP w vs[j] n fs[j]) (hi:i<fs.length) (hx:VecP w x n fs[i])
 (ho:w'.ownsRow base 112 1 v' (i+1) (vs ++ [x])) (hg:w.grownBy w' v.ownBlock) (hc:OwnC isSl w' v'):VRow w' base v' (i+1) n fs:=by
 refine ⟨vs ++ [x],by simp [h1],ho,hc,fun j hj=>?_⟩
 have hjl:j<fs.length:=by simp at hj;omega
 refine ⟨hjl,?_⟩
 rw [List.getElem_append]
 split
 ·rename_i h;obtain ⟨hf,h5⟩:=h3 j h;exact h5.grown h4 isSl_no isSl_noP hg
 ·rename_i h
  have:j=i:=by simp at hj;omega
  subst this
  simp only [h1,Nat.sub_self,List.getElem_cons_zero]
  exact hx.grown h4 isSl_no isSl_noP hg
set_option maxRecDepth 100000 in
set_option maxHeartbeats 2000000 in
theorem vectors_calls (A:Option Addr) (c n:Nat) (l:List (List Int)) (w:World) (h:Grid w A l) (hl:l.length≤1000) (hn:n≤1000) (hrow:∀ r∈l,r.length=n) (hr:∀ r∈l,∀ x∈r,-9223372036854775808≤x∧x≤9223372036854775807) :
 Calls Tryz.prog 83 #[.slice A l.length c] w fun e w'=>∃ A' c',e=.returned (.slice A' l.length c')∧VecsP w' A' n (l.map nth)∧Below w.heap.size w w':=by
 obtain ⟨i0,hi0,hz0,hz1,hz2⟩:=info_parts infoVec
 have HH:=hid h
 have HR:Hid (∀ r∈l,∀ x∈r,-9223372036854775808≤x∧x≤9223372036854775807):=hid hr
 clear h hr
 go_enter Tryz.func83,Tryz.ntmps83
 go_wp2
 go_loopw [3,8] (fun tv ti wr=>∃ (i:Nat),i≤l.length∧ti=.int .i64 i∧Hid (VRow wr w.heap.size tv i n (l.map nth))∧Hid (Below w.heap.size w wr)) (fun _ ti _=>l.length-(intOf ti).toNat)
 case atStart=>exact ⟨0,Nat.zero_le _,rfl,hid ⟨[],rfl,World.ownsRow_nil _ _ _ _,OwnC.nil _ _ _ _,fun j hj=>by simp at hj⟩,hid (Below.refl _ _)⟩
 case round =>
  obtain ⟨i,hi,rfl,hP,hbe⟩:=hrel
  by_cases hlt:i<l.length
  ·have hn1:(i:Int)<l.length:=by omega
   obtain ⟨b,o,R,cR,rfl,hc,hcR,hints⟩:=HH.out i hlt
   have hc':=((bcell hbe.out).1 _ _ (cell_lt hc)).trans hc
   have hmem:=nrow_mem hlt
   have hlen:=hrow _ hmem
   have hof:=vecOf_calls R cR (nrow l i) wr (hints.ext hbe.out) (by omega) (HR.out _ hmem)
   rw [hlen] at hof
   have hc2:wr.cell? ⟨b,o+i,none⟩=some (.slice R n cR):=by rw [←hlen];exact hc'
   have HOF:=hid hof
   obtain ⟨vs0,-,hq2,-⟩:=hP.out.ex
   obtain ⟨A3,c3,rfl,hc3,hc4⟩:=own_size hq2
   clear hof hq2 hints hc hc' hcR
   go_wp2_with fail
   refine HOF.out.mono ?_;rintro e w2 ⟨x,rfl,hx,hb2⟩
   obtain ⟨Ax,cx,rfl,-⟩:=id hx
   have hA:Below w2.heap.size w2 (w2.alloc (.cells #[.slice Ax n cx] 112 (0,0))):=(Below.refl _ _).alloc (Nat.le_refl _) _
   have hB:=Blk.new w2 [.slice Ax n cx] 112
   have hP2:=(hP.out.ext hb2).ext hA
   obtain ⟨vs,hps1,hps2,hps4,hps3⟩:=hP2.ex
   have HO1:=hid hps2;have HC1:=hid hps4;have HBL:=hid hB;have HA:=hid hA;have H3:=hid hps3;have HX:=hid (hx.ext hA);have HB2:=hid hb2
   have hsz:=hbe.out.size
   have hsz2:=hb2.size
   clear hP2 hps2 hps3 hps4 hB hA hx hb2 HOF
   go_wp2_with (at_builtin;refine wpList_append_all isSl rfl _ _ 101 rfl w.heap.size 112 i0 (.slice none 0 0) 24 Tryz.underlying101 hi0 hz0 hz1 hz2 rfl ⟨_,_,_,rfl⟩ _ _ _ rfl HO1.out HC1.out ⟨w2.heap.size,0,none⟩ 1 1 [.slice Ax n cx] rfl ?qc1 ?qc2 ?qc3 ?qc7 ?qc8 ?qc4 ?qc5 ?qc6 ?_)
   case qc1=>rfl
   case qc2 =>
    intro j u hj
    cases j with
    | zero=>simp at hj;subst hj;exact HBL.out.cell 0 (by simp)
    | succ j=>simp at hj
   case qc3=>intro u hu;simp at hu;subst hu;rfl
   case qc7=>intro u hu;simp at hu;subst hu;exact ⟨_,_,_,rfl⟩
   case qc8=>omega
   case qc4=>unfold maxLen;omega
   case qc5=>omega
   case qc6=>exact Nat.le_trans (by omega:w.heap.size≤w2.heap.size) HA.out.size
   intro v' w3 hown' hgrow hoc
   have hb23:Below w.heap.size w2 w3:=((HA.out.mono (by omega)).grown hgrow (Nat.le_trans (by omega:w.heap.size≤w2.heap.size) HA.out.size) (own_block HO1.out))
   have hfi:(l.map nth)[i]'(by simpa using hlt)=nth (nrow l i):=by simp [nrow_lt hlt]
   have hP3:VRow w3 w.heap.size v' (i+1) n (l.map nth):=VRow.push hps1 HC1.out H3.out (by simpa using hlt) (by rw [hfi];exact HX.out) hown' hgrow hoc
   have HP3:=hid hP3;have HB3:=hid ((hbe.out.trans (HB2.out.mono hsz)).trans hb23)
   clear hown' hgrow hoc hP3 hb23 HO1
   go_wp2
   go_roundw
   case rel=>exact ⟨i+1,by omega,by go_num,HP3,HB3⟩
   case measure=>simp [intOf];omega
  ·obtain rfl:i=l.length:=by omega
   have hv:=hP.out
   have e0:l.length=(l.map nth).length:=by simp
   rw [e0] at hv
   obtain ⟨A',c',rfl,-,-,hvs⟩:=hv.vecs
   have e1:=e0.symm
   have HVS:=hid hvs
   rw [←e0]
   clear e0 e1 hv hvs
   go_wp2
   go_ret
   exact ⟨A',c',rfl,HVS.out,hbe.out⟩
end
section
open Go.RowKit Go.ChangeMaps
open Lp (Lt V Ech BdV Bd pivots lv cnt)
def rowsOf (rows:Lt) (n:Nat):List V:=(pivots rows n).map fun p=>(rows p).getD fun _=>0
theorem rowsOf_len (rows:Lt) (n:Nat):(rowsOf rows n).length=(pivots rows n).length:=by unfold rowsOf;simp
set_option maxRecDepth 100000 in
set_option maxHeartbeats 2000000 in
theorem rows_calls (L M n:Nat) (rows:Lt) (w:World) (h:LatP w L M n rows) (h0:0<n) (hn:n≤1000) :
 Calls Tryz.prog 84 #[.pointer (some ⟨L,0,none⟩)] w fun e w'=>∃ A' c',e=.returned (.slice A' (rowsOf rows n).length c')∧VecsP w' A' n (rowsOf rows n)∧Below w.heap.size w w':=by
 obtain ⟨i0,hi0,hz0,hz1,hz2⟩:=info_parts infoVec
 have HPS:=hid (pivots_calls L M n rows w h hn)
 have HL:=hid h
 have hle:=pivots_le rows n
 clear h
 go_enter Tryz.func84,Tryz.ntmps84
 go_wp2_with fail
 refine HPS.out.mono ?_;rintro e w1 ⟨A,cp,rfl,hcp1,hcp2,hints,hb1⟩
 have HB1:=hid hb1;have HI:=hid hints
 have hlen:(pivI rows n).length=(pivots rows n).length:=pivI_len rows n
 have hlen2:(rowsOf rows n).length=(pivots rows n).length:=rowsOf_len rows n
 clear hb1 hints HPS
 generalize hN:(pivI rows n).length=N at *
 go_wp2_with fail
 go_loopw [3,9] (fun tv ti wr=>∃ (i:Nat),i≤N∧ti=.int .i64 i∧Hid (VRow wr w1.heap.size tv i n (rowsOf rows n))∧Hid (Below w1.heap.size w1 wr)) (fun _ ti _=>N-(intOf ti).toNat)
 case atStart=>exact ⟨0,Nat.zero_le _,rfl,hid ⟨[],rfl,World.ownsRow_nil _ _ _ _,OwnC.nil _ _ _ _,fun j hj=>by simp at hj⟩,hid (Below.refl _ _)⟩
 case round =>
  obtain ⟨i,hi,rfl,hP,hbe1⟩:=hrel
  have hbe:=hid (HB1.out.trans (hbe1.out.mono HB1.out.size))
  by_cases hlt:i<N
  ·have hn1:(i:Int)<N:=by omega
   have hii:i<(pivots rows n).length:=by omega
   obtain ⟨bA,oA,rfl,hcA⟩:=(HI.out.ext hbe1.out) i (by omega)
   rw [pivI_nth hii] at hcA
   have hmem:=Lp.mem_pivots.1 (List.getElem_mem hii)
   have hfi:∃ hf:i<(rowsOf rows n).length,(rowsOf rows n)[i]=(rows ((pivots rows n)[i])).getD fun _=>0:=⟨by omega,by simp [rowsOf]⟩
   obtain ⟨p,hpe⟩:∃ p,(pivots rows n)[i]=p:=⟨_,rfl⟩
   rw [hpe] at hcA hmem
   obtain ⟨hf,hfe⟩:=hfi
   rw [hpe] at hfe
   obtain ⟨hpn,hps⟩:=hmem
   obtain ⟨r,hrp⟩:=Option.isSome_iff_exists.1 hps
   have hl:=HL.out.ext hbe.out
   have hc1:=hl.c1
   obtain ⟨F,hM,hF⟩:=hl.map
   have hlook:=hM.look p (by omega)
   have hFp:∃ v,F p=some v∧VecP wr v n r:=by
    rcases hF p hpn with ⟨-,h2⟩|⟨v,x,h1,h2,h3⟩
    ·rw [hrp] at h2;cases h2
    ·rw [hrp] at h2;injection h2 with h2;subst h2;exact ⟨v,h1,h3⟩
   obtain ⟨v,hFp1,hv⟩:=hFp
   rw [hFp1,Option.getD_some] at hlook
   rw [hrp,Option.getD_some] at hfe
   rw [←hfe] at hv
   obtain ⟨Ax,cx,rfl,-⟩:=id hv
   obtain ⟨vs0,-,hq2,-⟩:=hP.out.ex
   obtain ⟨A3,c3,rfl,hc3,hc4⟩:=own_size hq2
   have hA:Below wr.heap.size wr (wr.alloc (.cells #[.slice Ax n cx] 112 (0,0))):=(Below.refl _ _).alloc (Nat.le_refl _) _
   have hB:=Blk.new wr [.slice Ax n cx] 112
   have hP2:=hP.out.ext hA
   obtain ⟨vs,hps1,hps2,hps4,hps3⟩:=hP2.ex
   have HO1:=hid hps2;have HC1:=hid hps4;have HBL:=hid hB;have HA:=hid hA;have H3:=hid hps3;have HX:=hid (hv.ext hA)
   have hsz:=hbe.out.size
   have hsz1:=hbe1.out.size
   have hsz0:=HB1.out.size
   clear hP2 hps2 hps3 hps4 hB hA hv hq2 hM hF hl hFp1 hrp hfe
   go_wp2_with (at_builtin;refine wpList_append_all isSl rfl _ _ 101 rfl w1.heap.size 112 i0 (.slice none 0 0) 24 Tryz.underlying101 hi0 hz0 hz1 hz2 rfl ⟨_,_,_,rfl⟩ _ _ _ rfl HO1.out HC1.out ⟨wr.heap.size,0,none⟩ 1 1 [.slice Ax n cx] rfl ?qc1 ?qc2 ?qc3 ?qc7 ?qc8 ?qc4 ?qc5 ?qc6 ?_)
   case qc1=>rfl
   case qc2 =>
    intro j u hj
    cases j with
    | zero=>simp at hj;subst hj;exact HBL.out.cell 0 (by simp)
    | succ j=>simp at hj
   case qc3=>intro u hu;simp at hu;subst hu;rfl
   case qc7=>intro u hu;simp at hu;subst hu;exact ⟨_,_,_,rfl⟩
   case qc8=>omega
   case qc4=>unfold maxLen;omega
   case qc5=>omega
   case qc6=>exact Nat.le_trans hsz1 HA.out.size
   intro v' w3 hown' hgrow hoc
   have hb23:Below w1.heap.size wr w3:=((HA.out.mono hsz1).grown hgrow (Nat.le_trans hsz1 HA.out.size) (own_block HO1.out))
   have hP3:VRow w3 w1.heap.size v' (i+1) n (rowsOf rows n):=VRow.push hps1 HC1.out H3.out hf HX.out hown' hgrow hoc
   have HP3:=hid hP3;have HB3:=hid (hbe1.out.trans hb23)
   clear hown' hgrow hoc hP3 hb23 HO1
   go_wp2
   go_roundw
   case rel=>exact ⟨i+1,by omega,by go_num,HP3,HB3⟩
   case measure=>simp [intOf];omega
  ·obtain rfl:i=N:=by omega
   have hv:=hP.out
   have e0:i=(rowsOf rows n).length:=by omega
   have hv2:=hv
   rw [e0] at hv2
   obtain ⟨A',c',rfl,-,-,hvs⟩:=hv2.vecs
   have HVS:=hid hvs
   clear hv hv2 hvs e0
   go_wp2
   go_ret
   exact ⟨A',c',rfl,HVS.out,hbe.out⟩
end
section
open Go.RowKit Go.ChangeMaps
open Lp (V)
def intsTo (f:V) (n i:Nat):List Int:=(List.range n).map fun j=>if j<i then wrap64 (f j) else 0
theorem intsTo_len (f:V) (n i:Nat):(intsTo f n i).length=n:=by unfold intsTo;simp
theorem intsTo_zero (f:V) (n:Nat):intsTo f n 0=zeros n:=by
 unfold intsTo zeros
 apply List.ext_getElem (by simp)
 intro i h1 h2;simp
theorem intsTo_set (f:V) {n i:Nat} (hi:i<n):(intsTo f n i).set i (wrap64 (f i))=intsTo f n (i+1):=by
 unfold intsTo
 apply List.ext_getElem (by simp)
 intro j h1 h2
 rw [List.getElem_set]
 simp only [List.getElem_map,List.getElem_range]
 by_cases hj:i=j
 ·subst hj;simp
 ·rw [if_neg hj]
  by_cases h3:j<i
  ·rw [if_pos h3,if_pos (by omega)]
  ·rw [if_neg h3,if_neg (by omega)]
set_option maxRecDepth 100000 in
set_option maxHeartbeats 2000000 in
theorem vecInts_calls (n:Nat) (f:V) (v:Value) (w:World) (hv:VecP w v n f) (hn:n≤1000) :
 Calls Tryz.prog 91 #[v] w fun e w'=>∃ g,e=.returned (.slice (some ⟨g,0,none⟩) n n)∧w.heap.size≤g∧IBlk w' g (intsTo f n n)∧Below w.heap.size w w':=by
 obtain ⟨A,c,rfl,hc,-⟩:=id hv
 have hmk:=fun w=>run_makeInts w n (by omega)
 have HV:=hid hv
 have H0:Hid (IBlk (w.alloc (.cells ((zeros n).map (Value.int .i64)).toArray 3 (0,0))) w.heap.size (intsTo f n 0)):=hid (by rw [intsTo_zero];exact IBlk.made w n)
 have HA:Hid (Below w.heap.size w (w.alloc (.cells ((zeros n).map (Value.int .i64)).toArray 3 (0,0)))):=hid ((Below.refl _ _).alloc (Nat.le_refl _) _)
 clear hv
 go_enter Tryz.func91,Tryz.ntmps91
 go_wp2_with fail
 go_loopw [11] (fun ti wr=>∃ (i:Nat),i≤n∧ti=.int .i64 i∧Hid (IBlk wr w.heap.size (intsTo f n i))∧Hid (Below w.heap.size w wr)) (fun ti _=>n-(intOf ti).toNat)
 case atStart=>exact ⟨0,Nat.zero_le _,rfl,H0,HA⟩
 case round =>
  obtain ⟨i,hi,rfl,hI,hbe⟩:=hrel
  by_cases hlt:i<n
  ·have hn1:(i:Int)<n:=by omega
   obtain ⟨b,o,p,rfl,-,hc2,hz⟩:=(HV.out.ext hbe.out).at hlt
   have HI64:=hid (int64_calls p (f i) wr hz)
   clear hz
   go_wp2_with fail
   refine HI64.out.mono ?_;rintro e w2 ⟨rfl,hb2⟩
   have hI2:IBlk w2 w.heap.size (intsTo f n i):=Blk.ext hI.out hb2
   have hl:=intsTo_len f n i
   have g3:=hI2.cell i (by omega)
   have f3:=Blk.free hI2 i
   have hset:=hI2.set i (wrap64 (f i))
   rw [intsTo_set f hlt] at hset
   have HST:=hid hset;have HB:=hid (hbe.out.trans (hb2.mono hbe.out.size))
   clear hset hI2 hb2 HI64 hl
   go_wp2
   go_roundw
   case rel=>exact ⟨i+1,by omega,by go_num,HST,hid (HB.out.setCell (Nat.le_refl _) _)⟩
   case measure=>simp [intOf];omega
  ·obtain rfl:i=n:=by omega
   go_wp2
   go_ret
   exact ⟨_,rfl,Nat.le_refl _,hI.out,hbe.out⟩
end
end Go.Proofs.YtkljafmdbajfeaaGreatDoor
