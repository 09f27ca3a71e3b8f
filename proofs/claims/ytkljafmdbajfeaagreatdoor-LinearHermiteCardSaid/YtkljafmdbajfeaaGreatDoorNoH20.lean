/- A map from ints, known by what it holds: look-up, store, store of an entry. -/
import Derived.Maps.OwnSet
import Derived.WideKeyEntry
import Derived.Test.YtkljafmdbajfeaaGreatDoorNoH19
namespace Go.Proofs.YtkljafmdbajfeaaGreatDoor
set_option linter.unusedVariables false
set_option linter.unusedSimpArgs false
open Go.Lib (hid)
section
open Go.RowKit Go.ChangeMaps Go.MapKept
open Go.Maps (Keyed)
open Go.WideElems (findIdx_arr findIdx_born set_self)
theorem intKey:Keyed Tryz.prog 3:=Maps.int_keyed Tryz.underlying3
theorem intKeyOf (n:Nat) (h:n≤1000):keyOf Tryz.prog 3 (.int .i64 n)=some (.int .i64 n):=Maps.keyOf_int_mk Tryz.underlying3 (WalkArith.wf_i64 (by omega))
structure MapIs (w:World) (M:Nat) (f:Nat→Option Value):Prop where
 ex:∃ (es:Array MapEntry) (clock:Nat),w.heap[M]? = some (.map es clock)∧(∀ x∈es.toList,∃ n:Nat,n≤1000∧x.key=.int .i64 n)∧(es.toList.map (·.born)).Nodup∧(∀ x∈es.toList,x.born<clock) ∧
  (es.toList.Pairwise fun x y=>x.key≠y.key)∧∀ (n:Nat) v,n≤1000→(f n=some v↔∃ x∈es.toList,x.key=.int .i64 n∧x.val=v)
theorem MapIs.same {w w':World} {M:Nat} {f:Nat→Option Value} (h:MapIs w M f) (hb:w'.heap[M]? = w.heap[M]?):MapIs w' M f:=by
 obtain ⟨es,clock,h1,h2⟩:=h.ex
 exact ⟨es,clock,hb.trans h1,h2⟩
theorem MapIs.lt {w:World} {M:Nat} {f:Nat→Option Value} (h:MapIs w M f):M<w.heap.size:=by
 obtain ⟨es,clock,h1,-⟩:=h.ex
 exact (Array.getElem?_eq_some_iff.1 h1).1
theorem MapIs.ext {w w':World} {M:Nat} {f:Nat→Option Value} (h:MapIs w M f) (hb:Below w.heap.size w w'):MapIs w' M f:=h.same (hb.block M h.lt)
theorem MapIs.other {w w':World} {M p:Nat} {f:Nat→Option Value} (h:MapIs w M f) (hb:But p w w') (hne:M≠p):MapIs w' M f:=h.same (hb.block M h.lt hne)
theorem MapIs.made (w:World):MapIs (w.alloc (.map #[] 0)) w.heap.size fun _=>none :=
 ⟨#[],0,heap_alloc_new _ _,by simp,by simp,by simp,by simp,by simp⟩
theorem MapIs.find {w:World} {M:Nat} {f:Nat→Option Value} (h:MapIs w M f) (n:Nat) (hn:n≤1000) :
 ∃ (es:Array MapEntry) (clock:Nat),w.heap[M]? = some (.map es clock)∧((f n=none∧(Instr.findKey 3 (.int .i64 n) es.toList).run Tryz.prog w=.ok none w∧∀ e∈es.toList,e.key≠.int .i64 n) ∨
  ∃ (j:Nat) (e:MapEntry),f n=some e.val∧(Instr.findKey 3 (.int .i64 n) es.toList).run Tryz.prog w=.ok (some (j,e.val)) w∧es.toList[j]? = some e∧e.key=.int .i64 n):=by
 obtain ⟨es,clock,h1,h3,h4,h5,h6,h7⟩:=h.ex
 refine ⟨es,clock,h1,?_⟩
 rcases intKey.find w (intKeyOf n hn) es.toList (fun e he=>by obtain ⟨m,hm,e1⟩:=h3 e he;exact ⟨_,by rw [e1];exact intKeyOf m hm⟩) with ⟨a,b⟩|⟨j,e,a,b,c⟩
 ·left
  refine ⟨?_,a,b⟩
  cases hf:f n with
  | none=>rfl
  | some v=>obtain ⟨x,hx,e1,-⟩:=(h7 n v hn).1 hf;exact absurd e1 (b x hx)
 ·right
  exact ⟨j,e,(h7 n e.val hn).2 ⟨e,List.mem_of_getElem? b,c,rfl⟩,a,b,c⟩
theorem zeroVec (w:World):(zeroValue 112).run Tryz.prog w=.ok (.slice none 0 0) w:=by kernel_rfl
theorem MapIs.look {w:World} {M:Nat} {f:Nat→Option Value} (h:MapIs w M f) (n:Nat) (hn:n≤1000) :
 (Instr.lookup 164 (.map (some M)) (.int .i64 n) false).run Tryz.prog w=.ok ((f n).getD (.slice none 0 0)) w:=by
 obtain ⟨es,clock,h1,⟨hf,h2,h3⟩|⟨j,e,hf,h2,h3,h4⟩⟩:=h.find n hn
 ·simp [Instr.lookup,run_underlying Tryz.underlying164,MapKept.run_getObj_map h1,intKey.check w _ (intKeyOf n hn),h2,zeroVec,Result.andThen,hf]
 ·simp [Instr.lookup,run_underlying Tryz.underlying164,MapKept.run_getObj_map h1,intKey.check w _ (intKeyOf n hn),h2,Result.andThen,hf]
theorem MapIs.look_ok {w:World} {M:Nat} {f:Nat→Option Value} (h:MapIs w M f) (n:Nat) (hn:n≤1000) :
 (Instr.lookup 164 (.map (some M)) (.int .i64 n) true).run Tryz.prog w=.ok (.tuple #[(f n).getD (.slice none 0 0),.bool (f n).isSome]) w:=by
 obtain ⟨es,clock,h1,⟨hf,h2,h3⟩|⟨j,e,hf,h2,h3,h4⟩⟩:=h.find n hn
 ·simp [Instr.lookup,run_underlying Tryz.underlying164,MapKept.run_getObj_map h1,intKey.check w _ (intKeyOf n hn),h2,zeroVec,Result.andThen,hf]
 ·simp [Instr.lookup,run_underlying Tryz.underlying164,MapKept.run_getObj_map h1,intKey.check w _ (intKeyOf n hn),h2,Result.andThen,hf]
def putF (f:Nat→Option Value) (n:Nat) (v:Value):Nat→Option Value:=fun k=>if k=n then some v else f k
theorem setBlock_but {w:World} {M:Nat} {es:Array MapEntry} {clock:Nat} {o:Obj} (h:w.heap[M]? = some (.map es clock)):But M w (setBlock w M o) :=
 ⟨rfl,rfl,rfl,by simp [setBlock],fun k _ hk=>heap_setBlock_other h o hk⟩
theorem setBlock_id {w:World} {M:Nat} {es:Array MapEntry} {clock:Nat} (h:w.heap[M]? = some (.map es clock)):setBlock w M (.map es clock)=w:=by
 have e:w.heap.setIfInBounds M (.map es clock)=w.heap:=by
  apply Array.ext_getElem?
  intro i
  by_cases hi:i=M
  ·subst hi
   exact (heap_setBlock_same h _).trans h.symm
  ·exact heap_setBlock_other h _ hi
 unfold setBlock
 rw [e]
theorem set_entry {l:List MapEntry} {j:Nat} {e:MapEntry} (v:Value) {clock:Nat} {f:Nat→Option Value} {k:Nat} (hj:l[j]? = some e) (hk:e.key=.int .i64 k) (hkb:k≤1000)
 (h3:∀ x∈l,∃ n:Nat,n≤1000∧x.key=.int .i64 n) (h4:(l.map (·.born)).Nodup) (h5:∀ x∈l,x.born<clock) (h6:l.Pairwise fun x y=>x.key≠y.key) (h7:∀ (n:Nat) v,n≤1000→(f n=some v↔∃ x∈l,x.key=.int .i64 n∧x.val=v)) :
 (∀ x∈l.set j { e with val:=v },∃ n:Nat,n≤1000∧x.key=.int .i64 n)∧((l.set j { e with val:=v }).map (·.born)).Nodup∧(∀ x∈l.set j { e with val:=v },x.born<clock)∧((l.set j { e with val:=v }).Pairwise fun x y=>x.key≠y.key) ∧
   ∀ (n:Nat) u,n≤1000→(putF f k v n=some u↔∃ x∈l.set j { e with val:=v },x.key=.int .i64 n∧x.val=u):=by
 have hjl:j<l.length:=by
  rcases Nat.lt_or_ge j l.length with h|h
  ·exact h
  ·rw [List.getElem?_eq_none h] at hj;cases hj
 have hje:l[j]=e:=by rw [List.getElem?_eq_getElem hjl] at hj;exact Option.some.inj hj
 have hem:e∈l:=by rw [←hje];exact List.getElem_mem hjl
 have e1:(l.set j { e with val:=v }).map (·.born)=l.map (·.born):=by
  rw [List.map_set]
  apply List.ext_getElem (by simp)
  intro i h1 h2
  rw [List.getElem_set]
  split
  ·rename_i h;subst h;simp [hje]
  ·rfl
 have e2:(l.set j { e with val:=v }).map (·.key)=l.map (·.key):=by
  rw [List.map_set]
  apply List.ext_getElem (by simp)
  intro i h1 h2
  rw [List.getElem_set]
  split
  ·rename_i h;subst h;simp [hje]
  ·rfl
 have hmem:∀ x∈l.set j { e with val:=v },x={ e with val:=v }∨x∈l:=fun x hx=>by
  rcases List.mem_or_eq_of_mem_set hx with h|h
  ·exact .inr h
  ·exact .inl h
 have hkn:∀ {a b:Nat},Value.int .i64 (a:Int)=.int .i64 b→a=b:=fun h=>by injection h with _ h;omega
 refine ⟨fun x hx=>?_,by rw [e1];exact h4,fun x hx=>?_,?_,fun n u hn=>?_⟩
 ·rcases hmem x hx with rfl|h
  ·exact ⟨k,hkb,hk⟩
  ·exact h3 x h
 ·rcases hmem x hx with rfl|h
  ·exact h5 e hem
  ·exact h5 x h
 ·have:((l.set j { e with val:=v }).map (·.key)).Pairwise (·≠·):=by rw [e2];exact List.pairwise_map.2 h6
  exact List.pairwise_map.1 this
 ·unfold putF
  by_cases hnk:n=k
  ·subst hnk
   rw [if_pos rfl]
   constructor
   ·intro h;cases h
    exact ⟨{ e with val:=v },List.mem_of_getElem? (by rw [List.getElem?_set_self hjl]),hk,rfl⟩
   ·rintro ⟨x,hx,hxk,hxv⟩
    rw [←hxv]
    -- x is the j-th
    obtain ⟨i,hi,hxi⟩:=List.getElem_of_mem hx
    have hij:i=j:=by
     rcases Nat.lt_trichotomy i j with h|h|h
     ·exfalso
      rw [List.length_set] at hi
      have:=List.pairwise_iff_getElem.1 h6 i j hi hjl h
      rw [List.getElem_set_ne (by omega)] at hxi
      rw [hxi,hje,hxk,hk] at this;exact this rfl
     ·exact h
     ·exfalso
      rw [List.length_set] at hi
      have:=List.pairwise_iff_getElem.1 h6 j i hjl hi h
      rw [List.getElem_set_ne (by omega)] at hxi
      rw [hxi,hje,hxk,hk] at this;exact this rfl
    subst hij
    rw [List.getElem_set_self] at hxi
    rw [←hxi]
  ·rw [if_neg hnk,h7 n u hn]
   constructor
   ·rintro ⟨x,hx,hxk,hxv⟩
    obtain ⟨i,hi,hxi⟩:=List.getElem_of_mem hx
    refine ⟨x,?_,hxk,hxv⟩
    have hij:j≠i:=fun e3=>by
     subst e3;rw [hje] at hxi;rw [←hxi,hk] at hxk;exact hnk (hkn hxk).symm
    exact List.mem_of_getElem? (by rw [List.getElem?_set_ne hij,List.getElem?_eq_getElem hi,hxi])
   ·rintro ⟨x,hx,hxk,hxv⟩
    rcases hmem x hx with rfl|h
    ·exact absurd (hkn (hk.symm.trans hxk)).symm hnk
    ·exact ⟨x,h,hxk,hxv⟩
theorem modify_list {es:Array MapEntry} {j:Nat} {e:MapEntry} (g:MapEntry→MapEntry) (h:es.toList[j]? = some e):(es.modify j g).toList=es.toList.set j (g e):=by
 rw [Array.toList_modify]
 have hjl:j<es.toList.length:=by
  rcases Nat.lt_or_ge j es.toList.length with h1|h1
  ·exact h1
  ·rw [List.getElem?_eq_none h1] at h;cases h
 have hje:es.toList[j]=e:=by rw [List.getElem?_eq_getElem hjl] at h;exact Option.some.inj h
 apply List.ext_getElem (by simp)
 intro i h1 h2
 rw [List.getElem_modify,List.getElem_set]
 by_cases hi:j=i
 ·subst hi;rw [if_pos rfl,if_pos rfl,hje]
 ·rw [if_neg hi,if_neg hi]
theorem MapIs.update {w:World} {M:Nat} {f:Nat→Option Value} (h:MapIs w M f) (k:Nat) (hk:k≤1000) (v:Value) :
 ∃ w',(Instr.mapUpdate 164 (.map (some M)) (.int .i64 k) v).run Tryz.prog w=.ok () w'∧MapIs w' M (putF f k v)∧But M w w':=by
 obtain ⟨es,clock,g1,g3,g4,g5,g6,g7⟩:=h.ex
 obtain ⟨es',clock',h1,hor⟩:=h.find k hk
 rw [g1] at h1;injection h1 with h1;injection h1 with e1 e2;subst e1;subst e2
 rcases hor with ⟨hf,h2,h3⟩|⟨j,e,hf,h2,h3,h4⟩
 ·refine ⟨setBlock w M (.map (es.push ⟨.int .i64 k,v,clock⟩) (clock+1)),?_,⟨es.push ⟨.int .i64 k,v,clock⟩,clock+1,heap_setBlock_same g1 _,?_,?_,?_,?_,?_⟩,setBlock_but g1⟩
  ·simp [Instr.mapUpdate,run_underlying Tryz.underlying164,MapKept.run_getObj_map g1,intKey.check w false (intKeyOf k hk),h2,MapKept.run_setObj_map _ g1,Result.andThen,setBlock]
  ·intro x hx
   rw [Array.toList_push,List.mem_append,List.mem_singleton] at hx
   rcases hx with hx|rfl
   ·exact g3 x hx
   ·exact ⟨k,hk,rfl⟩
  ·rw [Array.toList_push,List.map_append]
   refine List.nodup_append.2 ⟨g4,by simp,fun a ha b hb e=>?_⟩
   obtain ⟨x,hx,rfl⟩:=List.mem_map.1 ha
   simp at hb
   have:=g5 x hx
   omega
  ·intro x hx
   rw [Array.toList_push,List.mem_append,List.mem_singleton] at hx
   rcases hx with hx|rfl
   ·have:=g5 x hx;omega
   ·simp
  ·rw [Array.toList_push]
   refine List.pairwise_append.2 ⟨g6,by simp,fun a ha b hb=>?_⟩
   rw [List.mem_singleton] at hb;subst hb
   exact h3 a ha
  ·intro n u hn
   unfold putF
   rw [Array.toList_push]
   by_cases hnk:n=k
   ·subst hnk
    rw [if_pos rfl]
    constructor
    ·intro h;cases h;exact ⟨_,List.mem_append_right _ (List.mem_singleton.2 rfl),rfl,rfl⟩
    ·rintro ⟨x,hx,hxk,hxv⟩
     rcases List.mem_append.1 hx with hx|hx
     ·exact absurd hxk (h3 x hx)
     ·rw [List.mem_singleton] at hx;subst hx;rw [←hxv]
   ·rw [if_neg hnk,g7 n u hn]
    constructor
    ·rintro ⟨x,hx,hxk,hxv⟩;exact ⟨x,List.mem_append_left _ hx,hxk,hxv⟩
    ·rintro ⟨x,hx,hxk,hxv⟩
     rcases List.mem_append.1 hx with hx|hx
     ·exact ⟨x,hx,hxk,hxv⟩
     ·rw [List.mem_singleton] at hx;subst hx;injection hxk with _ hxk;omega
 ·have hj:es[j]? = some e:=by simpa using h3
  have hset:=set_entry v (clock:=clock) (f:=f) h3 h4 hk g3 g4 g5 g6 g7
  have hl:(es.modify j (fun e'=>{ e' with key:=.int .i64 k,val:=v })).toList=es.toList.set j { e with val:=v }:=by
   rw [modify_list _ h3,←h4]
  refine ⟨setBlock w M (.map (es.modify j (fun e'=>{ e' with key:=.int .i64 k,val:=v })) clock),?_,⟨_,clock,heap_setBlock_same g1 _,?_,?_,?_,?_,?_⟩,setBlock_but g1⟩
  ·simp [Instr.mapUpdate,run_underlying Tryz.underlying164,MapKept.run_getObj_map g1,intKey.check w false (intKeyOf k hk),h2,hj,h4,intKey.stays w (intKeyOf k hk),MapKept.run_setObj_map _ g1,Result.andThen,setBlock]
  all_goals rw [hl]
  ·exact hset.1
  ·exact hset.2.1
  ·exact hset.2.2.1
  ·exact hset.2.2.2.1
  ·exact hset.2.2.2.2
theorem MapIs.entry {w:World} {M:Nat} {f:Nat→Option Value} (h:MapIs w M f) (k:Nat) (hk:k≤1000) {v0:Value} (hf:f k=some v0) :
 ∃ st:Nat,(Instr.mapEntry 164 (.map (some M)) (.int .i64 k)).run Tryz.prog w=.ok (.tuple #[v0,.int .i64 st]) w ∧
  ∀ v,∃ w',(Instr.entryStore 164 (.map (some M)) (.int .i64 st) v).run Tryz.prog w=.ok () w'∧MapIs w' M (putF f k v)∧But M w w':=by
 obtain ⟨es,clock,g1,g3,g4,g5,g6,g7⟩:=h.ex
 obtain ⟨es',clock',h1,hor⟩:=h.find k hk
 rw [g1] at h1;injection h1 with h1;injection h1 with e1 e2;subst e1;subst e2
 rcases hor with ⟨hf2,-,-⟩|⟨j,e,hf2,h2,h3,h4⟩
 ·rw [hf] at hf2;cases hf2
 ·rw [hf] at hf2
  have hv0:v0=e.val:=Option.some.inj hf2
  subst hv0
  have hj:es[j]? = some e:=by simpa using h3
  have hsame:es.modify j (fun e=>{ e with key:=.int .i64 k })=es:=by
   apply Array.ext'
   rw [modify_list _ h3]
   have:({ e with key:=.int .i64 k }:MapEntry)=e:=by rw [←h4]
   rw [this]
   exact set_self _ _ _ h3
  refine ⟨e.born,?_,fun v=>?_⟩
  ·have:(Instr.mapEntry 164 (.map (some M)) (.int .i64 k)).run Tryz.prog w=.ok (.tuple #[e.val,.int .i64 e.born]) (setBlock w M (.map es clock)):=by
    simp [Instr.mapEntry,run_underlying Tryz.underlying164,MapKept.run_getObj_map g1,intKey.check w false (intKeyOf k hk),h2,hj,h4,intKey.stays w (intKeyOf k hk),hsame,MapKept.run_setObj_map _ g1,Result.andThen,setBlock,goInt]
   rw [setBlock_id g1] at this
   exact this
  ·have hidx:es.findIdx? (fun e'=>((e'.born:Nat):Int) == ((e.born:Nat):Int))=some j:=by
    rw [findIdx_arr]
    exact findIdx_born g4 h3
   have hset:=set_entry v (clock:=clock) (f:=f) h3 h4 hk g3 g4 g5 g6 g7
   refine ⟨setBlock w M (.map (es.modify j (fun e'=>{ e' with val:=v })) clock),?_,⟨_,clock,heap_setBlock_same g1 _,?_,?_,?_,?_,?_⟩,setBlock_but g1⟩
   ·simp [Instr.entryStore,MapKept.run_getObj_map g1,asInt,asIntOf,goInt,hidx,MapKept.run_setObj_map _ g1,Result.andThen,setBlock]
   all_goals rw [modify_list _ h3]
   ·exact hset.1
   ·exact hset.2.1
   ·exact hset.2.2.1
   ·exact hset.2.2.2.1
   ·exact hset.2.2.2.2
end
section
open Go.RowKit
def Ptrs (w:World) (p:Nat):Prop:=∀ o x,w.cell? ⟨p,o,none⟩=some x→∃ a,x=.pointer a
theorem Ptrs.no {w:World} {p:Nat} (h:Ptrs w p) (o:Nat) (k:IntKind) (n:Int):w.cell? ⟨p,o,none⟩≠some (.int k n):=fun e=>by
 obtain ⟨a,h1⟩:=h _ _ e;cases h1
theorem Ptrs.same {w w':World} {p:Nat} (h:Ptrs w p) (hb:w'.heap[p]? = w.heap[p]?):Ptrs w' p:=fun o x e=>h o x (by rw [←e];exact (World.cell?_of_block (a:=⟨p,o,none⟩) hb).symm)
theorem Ptrs.ne {w:World} {p q:Nat} {z:Int} (h:Ptrs w p) (k:BigP w q z):q≠p:=by
 rintro rfl
 obtain ⟨-,v,h1,-⟩:=k
 obtain ⟨a,h2⟩:=h _ _ h1;cases h2
theorem WSl.butP {w w':World} {v:Value} {n p:Nat} (h:WSl w v n) (hp:Ptrs w p) (hb:But p w w'):WSl w' v n:=by
 obtain ⟨A,c,h1,h2,h3,h4⟩:=h
 refine ⟨A,c,h1,h2,h3,fun i hi=>?_⟩
 obtain ⟨b,off,e,hc⟩:=h4 i hi
 refine ⟨b,off,e,?_⟩
 have hne:b≠p:=by rintro rfl;exact hp.no _ _ _ hc
 rw [World.cell?_of_block (w:=w) (hb.block b (cell_lt hc) hne)];exact hc
theorem BigP.butP {w w':World} {p q:Nat} {z:Int} (h:BigP w q z) (hp:Ptrs w p) (hb:But p w w'):BigP w' q z:=by
 have hne:=hp.ne h
 have hq:=hb.block q h.lt hne
 obtain ⟨h0,v,h1,h2,h3⟩:=h
 exact ⟨h0.same hq,v,(World.cell?_of_block (a:=⟨q,0,none⟩) hq).trans h1,(World.cell?_of_block (a:=⟨q,1,none⟩) hq).trans h2,h3.butP hp hb⟩
theorem MapIs.ptrs {w:World} {M:Nat} {f:Nat→Option Value} (h:MapIs w M f):Ptrs w M:=fun o x e=>by
 obtain ⟨es,clock,h1,-⟩:=h.ex
 simp [World.cell?,h1] at e
def VecX (X:Nat→Prop) (w:World) (v:Value) (n:Nat) (f:Nat→Int):Prop :=
 ∃ A c,v=.slice A n c∧n≤c∧c≤maxLen∧∀ i,i<n→∃ b o p,A=some ⟨b,o,none⟩∧X b∧w.cell? ⟨b,o+i,none⟩=some (.pointer (some ⟨p,0,none⟩))∧BigP w p (f i)
abbrev VecP:=VecX fun _=>True
theorem VecX.ext {X:Nat→Prop} {w w':World} {v:Value} {n:Nat} {f:Nat→Int} (h:VecX X w v n f) (hb:Below w.heap.size w w'):VecX X w' v n f:=by
 obtain ⟨A,c,h1,h2,h3,h4⟩:=h
 refine ⟨A,c,h1,h2,h3,fun i hi=>?_⟩
 obtain ⟨b,o,p,e,hx,hc,hz⟩:=h4 i hi
 exact ⟨b,o,p,e,hx,(hb.cell (p:=⟨b,o+i,none⟩) (cell_lt hc)).trans hc,hz.ext hb⟩
theorem VecX.mono {X Y:Nat→Prop} {w:World} {v:Value} {n:Nat} {f:Nat→Int} (h:VecX X w v n f) (hb:∀ b,X b→Y b):VecX Y w v n f:=by
 obtain ⟨A,c,h1,h2,h3,h4⟩:=h
 refine ⟨A,c,h1,h2,h3,fun i hi=>?_⟩
 obtain ⟨b,o,p,e,hx,hc,hz⟩:=h4 i hi
 exact ⟨b,o,p,e,hb b hx,hc,hz⟩
theorem VecX.vec {X:Nat→Prop} {w:World} {v:Value} {n:Nat} {f:Nat→Int} (h:VecX X w v n f):VecP w v n f:=h.mono fun _ _=>trivial
theorem VecX.low {X:Nat→Prop} {w:World} {v:Value} {n:Nat} {f:Nat→Int} (h:VecX X w v n f):VecX (·<w.heap.size) w v n f:=by
 obtain ⟨A,c,h1,h2,h3,h4⟩:=h
 refine ⟨A,c,h1,h2,h3,fun i hi=>?_⟩
 obtain ⟨b,o,p,e,hx,hc,hz⟩:=h4 i hi
 exact ⟨b,o,p,e,cell_lt hc,hc,hz⟩
theorem VecX.congr {X:Nat→Prop} {w:World} {v:Value} {n:Nat} {f g:Nat→Int} (h:VecX X w v n f) (e:∀ i,i<n→f i=g i):VecX X w v n g:=by
 obtain ⟨A,c,h1,h2,h3,h4⟩:=h
 refine ⟨A,c,h1,h2,h3,fun i hi=>?_⟩
 rw [←e i hi];exact h4 i hi
theorem VecX.butP {X:Nat→Prop} {b:Nat} {w w':World} {v:Value} {n:Nat} {f:Nat→Int} (h:VecX X w v n f) (hX:∀ c,X c→c≠b) (hp:Ptrs w b) (hb:But b w w'):VecX X w' v n f:=by
 obtain ⟨A,c,h1,h2,h3,h4⟩:=h
 refine ⟨A,c,h1,h2,h3,fun i hi=>?_⟩
 obtain ⟨a,o,p,e,hx,hc,hz⟩:=h4 i hi
 exact ⟨a,o,p,e,hx,(World.cell?_of_block (a:=⟨a,o+i,none⟩) (hb.block a (cell_lt hc) (hX a hx))).trans hc,hz.butP hp hb⟩
theorem VecX.at {X:Nat→Prop} {w:World} {A:Option Addr} {n c m:Nat} {f:Nat→Int} (h:VecX X w (.slice A m c) n f) {i:Nat} (hi:i<n):∃ b o p,A=some ⟨b,o,none⟩∧X b∧w.cell? ⟨b,o+i,none⟩=some (.pointer (some ⟨p,0,none⟩))∧BigP w p (f i):=by
 obtain ⟨A',c',h1,h2,h3,h4⟩:=h
 injection h1 with e1 e2 e3
 subst e1
 exact h4 i hi
structure OwnV (w:World) (b n m:Nat) (f:Nat→Int):Prop where
 ptrs:Ptrs w b
 lt:b<w.heap.size
 fr:∀ i,w.frozen? ⟨b,i,none⟩=false
 ex:∀ i,i<n→∃ a,w.cell? ⟨b,i,none⟩=some (.pointer a)
 num:∀ i,i<m→∃ p,w.cell? ⟨b,i,none⟩=some (.pointer (some ⟨p,0,none⟩))∧BigP w p (f i)
theorem OwnV.ext {w w':World} {b n m:Nat} {f:Nat→Int} (h:OwnV w b n m f) (hb:Below w.heap.size w w'):OwnV w' b n m f:=by
 have hs:=hb.block b h.lt
 have hc:∀ o,w'.cell? ⟨b,o,none⟩=w.cell? ⟨b,o,none⟩:=fun o=>World.cell?_of_block (a:=⟨b,o,none⟩) hs
 refine ⟨h.ptrs.same hs,Nat.lt_of_lt_of_le h.lt hb.size,fun i=>(World.frozen?_of_block (a:=⟨b,i,none⟩) hs).trans (h.fr i),fun i hi=>?_,fun i hi=>?_⟩
 ·rw [hc];exact h.ex i hi
 ·obtain ⟨p,h1,h2⟩:=h.num i hi
  exact ⟨p,by rw [hc];exact h1,h2.ext hb⟩
theorem OwnV.congr {w:World} {b n m:Nat} {f g:Nat→Int} (h:OwnV w b n m f) (e:∀ i,i<m→f i=g i):OwnV w b n m g :=
 ⟨h.ptrs,h.lt,h.fr,h.ex,fun i hi=>by rw [←e i hi];exact h.num i hi⟩
theorem OwnV.set {w:World} {b n m m' i p:Nat} {f g:Nat→Int} (h:OwnV w b n m f) (hi:i<n) (hp:BigP w p (g i)) (hm:∀ j,j<m'→j≠i→j<m∧f j=g j):OwnV (w.setCell ⟨b,i,none⟩ (.pointer (some ⟨p,0,none⟩))) b n m' g:=by
 have hb:But b w (w.setCell ⟨b,i,none⟩ (.pointer (some ⟨p,0,none⟩))):=(But.refl b w).set i _
 obtain ⟨a0,h0⟩:=h.ex i hi
 have hsame:=World.cell?_setCell_same w ⟨b,i,none⟩ (.pointer (some ⟨p,0,none⟩)) h0
 have hoth:∀ o,o≠i→(w.setCell ⟨b,i,none⟩ (.pointer (some ⟨p,0,none⟩))).cell? ⟨b,o,none⟩=w.cell? ⟨b,o,none⟩:=fun o ho =>
  World.cell?_setCell_other w ⟨b,i,none⟩ ⟨b,o,none⟩ _ (by intro e;injection e with _ e;exact ho e.symm)
 refine ⟨fun o x e=>?_,Nat.lt_of_lt_of_le h.lt hb.size,fun j=>?_,fun j hj=>?_,fun j hj=>?_⟩
 ·by_cases ho:o=i
  ·subst ho;rw [hsame] at e;injection e with e;exact ⟨_,e.symm⟩
  ·rw [hoth o ho] at e;exact h.ptrs o x e
 ·simp only [World.frozen?_setCell];exact h.fr j
 ·by_cases ho:j=i
  ·subst ho;exact ⟨_,hsame⟩
  ·rw [hoth j ho];exact h.ex j hj
 ·by_cases ho:j=i
  ·subst ho;exact ⟨p,hsame,hp.butP h.ptrs hb⟩
  ·obtain ⟨h1,h2⟩:=hm j hj ho
   obtain ⟨q,h3,h4⟩:=h.num j h1
   exact ⟨q,by rw [hoth j ho];exact h3,by rw [←h2];exact h4.butP h.ptrs hb⟩
theorem OwnV.vec {w:World} {b n c:Nat} {f:Nat→Int} (h:OwnV w b n n f) (h1:n≤c) (h2:c≤maxLen):VecX (·=b) w (.slice (some ⟨b,0,none⟩) n c) n f :=
 ⟨_,c,rfl,h1,h2,fun i hi=>by obtain ⟨p,h3,h4⟩:=h.num i hi;exact ⟨b,0,p,rfl,rfl,by rw [Nat.zero_add];exact h3,h4⟩⟩
def NewV (w:World) (b m B:Nat):Prop:=∀ i,i<m→∀ p,w.cell? ⟨b,i,none⟩=some (.pointer (some ⟨p,0,none⟩))→B≤p
theorem NewV.ext {w w':World} {b m B:Nat} (h:NewV w b m B) (hl:b<w.heap.size) (hb:Below w.heap.size w w'):NewV w' b m B:=fun i hi p e=>by
 rw [World.cell?_of_block (w:=w) (a:=⟨b,i,none⟩) (hb.block b hl)] at e;exact h i hi p e
theorem NewV.put {w:World} {b i B p:Nat} (h:NewV w b i B) (hp:B≤p) (he:∃ x,w.cell? ⟨b,i,none⟩=some x):NewV (w.setCell ⟨b,i,none⟩ (.pointer (some ⟨p,0,none⟩))) b (i+1) B:=fun j hj q e=>by
 by_cases hji:j=i
 ·subst hji
  obtain ⟨x,hx⟩:=he
  rw [World.cell?_setCell_same w ⟨b,j,none⟩ _ hx] at e
  injection e with e;injection e with e;injection e with e;injection e with e;omega
 ·rw [World.cell?_setCell_other w ⟨b,i,none⟩ ⟨b,j,none⟩ _ (by intro e2;injection e2 with _ e2;exact hji e2.symm)] at e
  exact h j (by omega) q e
set_option maxRecDepth 100000 in
set_option maxHeartbeats 2000000 in
theorem vecAdd_calls (b c pk n:Nat) (f g:Nat→Int) (k:Int) (v:Value) (w:World) (hO:OwnV w b n n f) (hk:BigP w pk k) (hv:VecX (·≠b) w v n g) (hn:n≤1000)
 (wk:Wide k) (wf:∀ i,i<n→Wide (f i)) (wg:∀ i,i<n→Wide (g i)) (wp:∀ i,i<n→Wide (k*g i)) :
 Calls Tryz.prog 163 #[.slice (some ⟨b,0,none⟩) n c,.pointer (some ⟨pk,0,none⟩),v] w fun e w'=>e=.returned (.tuple #[])∧OwnV w' b n n (fun i=>f i+k*g i)∧But b w w'∧NewV w' b n w.heap.size:=by
 obtain ⟨A,cv,rfl,hcv,-⟩:=id hv
 have HP:=hid hO.ptrs
 go_enter Tryz.func163,Tryz.ntmps163
 go_wp2
 go_loopw [10] (fun t wr=>∃ (i:Nat),i≤n∧t=.int .i64 i∧Hid (OwnV wr b n n (fun j=>if j<i then f j+k*g j else f j))∧Hid (But b w wr)∧Hid (NewV wr b i w.heap.size)) (fun t _=>n-(intOf t).toNat)
 case atStart=>exact ⟨0,Nat.zero_le _,rfl,hid (hO.congr fun i _=>by rw [if_neg (by omega)]),hid (But.refl _ _),hid (fun i hi=>by omega)⟩
 case round =>
  obtain ⟨i,hi,rfl,hW,hbe,hnw⟩:=hrel
  by_cases hlt:i<n
  ·have hn1:(i:Int)<n:=by omega
   have hv1:=hv.butP (fun _ h=>h) HP.out hbe.out
   have hk1:=hk.butP HP.out hbe.out
   obtain ⟨b2,o2,p2,rfl,hne,q2,hz2⟩:=hv1.at hlt
   obtain ⟨p3,g3,hz3⟩:=hW.out.num i hlt
   have q3:wr.cell? ⟨b,i,none⟩=some (.pointer (some ⟨p3,0,none⟩)):=g3
   rw [if_neg (Nat.lt_irrefl i)] at hz3
   have HK:=hid hk1;have HG:=hid hz2;have HF:=hid hz3
   have w1:=hid (wf i hlt);have w2:=hid (wg i hlt);have w3:=hid (wp i hlt)
   have hbl:=hW.out.lt
   clear hv1 hk1 hz2 hz3 g3
   go_wp2_with fail
   refine wp_region_kc (w0:=wr) 12 [15,16,17,18,19,20,21,22,23,24,25,26]
    [.c (.slice (some ⟨b,0,none⟩) n c),.c (.int .i64 i),.l none (leafA IntBlk · wr.heap.size),.c (.slice (some ⟨b,0,none⟩) n c),.c (.int .i64 i),.c (.pointer (some ⟨b,i,none⟩)),.c (.pointer (some ⟨p3,0,none⟩)),.l none (leafA IntBlk · wr.heap.size),.c (.pointer (some ⟨pk,0,none⟩)),.c (.pointer (some ⟨p2,0,none⟩)),.l (some 22) (leafR 22 · (fun p w=>BigP w p (k*g i)) wr.heap.size),.l (some 17) (leafR 17 · (fun p w=>BigP w p (f i+k*g i)) wr.heap.size)]
    [17,22] IntBlk (by kernel_rfl) (by kernel_rfl) (by kernel_rfl) rfl (F:=?cFr3) ?r3c1 ?r3c2 ?r3c3 ?r3c4
   case r3c1 =>
    intro x
    simp only [fullC,Act.put,List.setIfInBounds_toArray,List.set_cons_zero,List.set_cons_succ]
    rfl
   case r3c2 =>
    exact ⟨keeps_alloc intBlk_ext intBlk_other _ _ _ _ _,keeps_alloc intBlk_ext intBlk_other _ _ _ _ _,keeps_res (calm_big _) _ _ _ _ _ rfl (by decide),keeps_res (calm_big _) _ _ _ _ _ rfl (by decide),trivial⟩
   case r3c3 =>
    refine ⟨?_,?_,?_,?_,?_,?_,?_,?_,?_,?_,?_,?_,trivial⟩
    all_goals
     intro xx wq HE hd K hK
     have hc:=(bcell HE).1
     have q3':=(hc _ _ (cell_lt q3)).trans q3
     try have g2:=hd 2 _ (by decide) rfl
     try have g7:=hd 7 _ (by decide) rfl
     try have g10:=hd 10 _ (by decide) rfl
     try have g11:=hd 11 _ (by decide) rfl
     have HE:=hid HE
     have HC:=hid hc
     clear hd hc
     all_goals go_simp
     try (refine hK _ _ _ (mv_const _ rfl) ?_;dsimp only [Act.put];first|done|rfl|(simp [*];done))
    ·refine hK _ _ _ (mv_alloc _ HE.out.size (IntBlk.new _)) ?_
     dsimp only [Act.put]
     first|rfl|(simp [*];done)|(simp [*,ptr];done)
    ·refine hK _ _ _ (mv_alloc _ HE.out.size (IntBlk.new _)) ?_
     dsimp only [Act.put]
     first|rfl|(simp [*];done)|(simp [*,ptr];done)
    ·obtain ⟨q,h9,hk1,hk2⟩:=g7
     rw [h9]
     refine (mul_t q pk p2 k (g i) wq hk2 (HK.out.ext HE.out) (HG.out.ext HE.out) wk w2.out).mono ?_
     rintro e w2 ⟨rfl,hz2,hb2,-⟩
     exact hK _ _ _ (mv_set h9 hk1 hk2 hz2.blk hb2 hz2 (by decide) rfl) (by first|(dsimp only [Act.put];done)|(dsimp only [Act.put];first|rfl|(simp [*];done)|(simp [*,ptr];done)))
    ·obtain ⟨q,h9,hk1,hk2⟩:=g2
     obtain ⟨r,-,h14,hr1,hr2⟩:=g10
     rw [h9,h14]
     refine (add_t q p3 r (f i) (k*g i) wq hk2 (HF.out.ext HE.out) hr2 w1.out w3.out).mono ?_
     rintro e w2 ⟨rfl,hz2,hb2,-⟩
     exact hK _ _ _ (mv_set h9 hk1 hk2 hz2.blk hb2 hz2 (by decide) rfl) (by first|(dsimp only [Act.put];done)|(dsimp only [Act.put];first|rfl|(simp [*];done)|(simp [*,ptr];done)))
   case r3c4 =>
    intro xx wz hE hG hA
    have g2:=hG 2 _ rfl
    have g7:=hG 7 _ rfl
    have g10:=hG 10 _ rfl
    have g11:=hG 11 _ rfl
    obtain ⟨pr,-,h26,hpr1,hpr2⟩:=g11
    simp only [ptr] at h26
    have HR:=hid hpr2
    have HW1:=hid (hW.out.ext hE)
    obtain ⟨a5,hc5⟩:=HW1.out.ex i hlt
    have HB:=hid (hbe.out.ext hE)
    have hst:∀ h:OwnV wz b n n (fun j=>if j<i then f j+k*g j else f j),OwnV (wz.setCell ⟨b,i,none⟩ (.pointer (some ⟨pr,0,none⟩))) b n n (fun j=>if j<i+1 then f j+k*g j else f j):=fun h=>by
     refine h.set hlt (by rw [if_pos (by omega)];exact hpr2) (fun j hj hne=>⟨hj,?_⟩)
     by_cases h1:j<i
     ·rw [if_pos h1,if_pos (by omega)]
     ·rw [if_neg h1,if_neg (by omega)]
    have HST:=hid (hst HW1.out)
    have HNW:=hid ((hnw.out.ext hbl hE).put (Nat.le_trans hbe.out.size hpr1) ⟨_,hc5⟩)
    have hf5:=HW1.out.fr i
    clear hG hA hE g2 g7 g10 hst hpr2
    refine tail_one (i:=12) (by kernel_rfl) rfl ?_
    intro K hK
    go_simp
    refine hK _ _ ?_
    refine tail_one (i:=13) (by kernel_rfl) rfl ?_
    intro K hK
    go_simp
    refine hK _ _ ?_
    refine wpAny_done (by kernel_rfl) ?_ _
    go_wp2
    go_roundw
    case rel=>exact ⟨i+1,by omega,by go_num,HST,hid (HB.out.set _ _),HNW⟩
    case measure=>simp [intOf];omega
  ·obtain rfl:i=n:=by omega
   go_wp2
   go_end0
   exact ⟨rfl,hW.out.congr fun j hj=>by rw [if_pos hj],hbe.out,hnw.out⟩
end
end Go.Proofs.YtkljafmdbajfeaaGreatDoor
