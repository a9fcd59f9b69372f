/- Parts: SbBig JoinBig MatLine RefLine Arr5 MatFind -/
import Derived.Test.YtilgbodgmkmjjaaGreatDoorPart20
import Derived.Test.YtilgbodgmkmjjaaGreatDoorPart2
import Derived.Test.YtilgbodgmkmjjaaGreatDoorPart17
namespace Go.Proofs.YtilgbodgmkmjjaaGreatDoor
section
open Go.RowKit Go.Shelf

def capV:Value→Nat
 | .slice _ _ c=>c
 | _=>0
section
variable {P:Program} (w:World)
theorem run_append_in (base:Nat) (t u ty e:TypeId) (i:TypeInfo) (ht:P.underlying t=some (.slice e)) (hu:P.underlying u=some .string) (hi:P.info? e=some i) (hz:i.zero=some (.int .u8 0))
  (hsize:i.size=1) (hby:i.bytes=1) (v:Value) (n:Nat) (xs:List Value) (hown:w.ownsRowF base e 1 v n xs) (s:ByteArray)
  (h63:n+s.size≤maxLen) (hcap:n+s.size≤capV v) (hbase:base≤w.heap.size) :
  ∃ v' w',(Builtin.append_ #[t,u] ty #[v,.string s]).run P w=.ok v' w'∧w'.ownsRowF base e 1 v' (n+s.size) (xs++Lib.strCells s)∧w.grownBy w' v.ownBlock∧capV v'=capV v:=by
 rcases hown.2 with ⟨rfl,rfl⟩ | ⟨g,cap,cur,fz,rfl,hbg,hg,hfz,hnc,hcm,hcs,htake⟩
 ·have hs:s.size=0:=by simp only [capV] at hcap;omega
  obtain ⟨v',w',h1,h2,h3,h4⟩:=Lib.run_append_own_string (P:=P) w base t u ty e i ht hu hi hz hsize hby (.slice none 0 0) 0 xs ⟨hown.1,.inl ⟨rfl,rfl⟩⟩ s h63 (by omega) hbase
  obtain rfl:=h4.2 ⟨rfl,hs⟩
  exact ⟨_,w',h1,World.ownsRowF_of h2,h3,rfl⟩
 ·have hxl:xs.length=n:=by simpa using hown.1
  have hlen:(xs++Lib.strCells s).length=(n+s.size) * 1:=by rw [List.length_append,hxl,Lib.strCells_length,Nat.mul_one]
  have hroom:n+s.size≤cap:=hcap
  have hcs':cur.size=cap:=by simpa using hcs
  have hr:=Lib.run_append_room_stringF (P:=P) w t u ty e i ht hu hi hsize g n cap cur fz hg (by simpa using hfz) s hroom (by omega)
  refine ⟨_,_,hr,⟨hlen,.inr ⟨g,cap,_,fz,rfl,hbg,setRow_heap w g cur _ e _ hg,by omega,hroom,hcm,?_,?_⟩⟩,⟨rfl,rfl,rfl,by simp,fun k _ hk=>setRow_other w g k _ (fun e=>hk (by simp [Value.ownBlock,e]))⟩,rfl⟩
  ·simp only [List.size_toArray,List.length_append,List.length_take,List.length_drop,Array.length_toList,Lib.strCells_length]
   omega
  ·have ht':cur.toList.take n=xs:=by simpa using htake
   rw [ht',← hlen]
   exact List.take_left
theorem wpList_append_in {ops:Array Oper} {rest:List Oper} {o:Oper} {a:Act} {Q:Exit→Act→World→Prop} (hgd:o.guard=none) (sl x:Operand) (t u:TypeId)
  (ho:o.op=.call { callee:=.builtin .append,args:=#[sl,x],argTypes:=#[t,u] })
  (base:Nat) (e:TypeId) (i:TypeInfo) (ht:P.underlying t=some (.slice e)) (hu:P.underlying u=some .string) (hi:P.info? e=some i) (hz:i.zero=some (.int .u8 0))
  (hsize:i.size=1) (hby:i.bytes=1)
  (v:Value) (n:Nat) (xs:List Value) (hs:a.eval sl=v) (hown:w.ownsRowF base e 1 v n xs) (s:ByteArray) (hx:a.eval x=.string s)
  (h63:n+s.size≤maxLen) (hcap:n+s.size≤capV v) (hbase:base≤w.heap.size)
  (h:∀ v' w',w'.ownsRowF base e 1 v' (n+s.size) (xs++Lib.strCells s)→w.grownBy w' v.ownBlock→capV v'=capV v→wpList P ops Q rest (a.put o.dst v') w'):wpList P ops Q (o :: rest) a w:=by
 refine wpList_plain hgd fun K hK=>?_
 obtain ⟨v',w',hr,h2,h3,h4⟩:=run_append_in (P:=P) w base t u o.type e i ht hu hi hz hsize hby v n xs hown s h63 hcap hbase
 unfold Oper.wp execOp
 simp only [ho,resolve,invoke,builtin,Sem.run_bind,Sem.run_pure,Result.andThen_ok,List.map_toArray,List.map_cons,List.map_nil,hs,hx,hr]
 exact hK _ _ (h v' w' h2 h3 h4)
end
def SbU (B b:Nat) (l:List UInt8) (C:Nat) (w:World):Prop:=Lib.BuilderAtF 197 5 B b (.pointer (some ⟨b,0,none⟩)) (Lib.byteCells l) w∧∃ v,w.cell? ⟨b,1,none⟩=some v∧C≤capV v
set_option maxHeartbeats 2000000 in
set_option maxRecDepth 1000000 in
theorem sb_grow_in (B b n:Nat) (w:World) (hB:B≤b) (hbk:w.heap[b]? = some (.cells #[.pointer (some ⟨b,0,none⟩),.slice none 0 0] 197 (0,0))) (hBw:B≤w.heap.size) (hn:n≤281474976710656) :
  Calls Tryz.prog 240 #[.pointer (some ⟨b,0,none⟩),.int .i64 n] w fun e w'=>e=.returned (.tuple #[])∧(Lib.BuilderAt 197 5 B b (.pointer (some ⟨b,0,none⟩)) [] w'∧Below B w w'∧∃ v,w'.cell? ⟨b,1,none⟩=some v∧n≤capV v):=by
 obtain ⟨i0,hi,hz0,hz1,hz2⟩:=info_parts sb_byte
 obtain ⟨cs,hrun,hle,hmax⟩:=Lib.run_makeNoZero (P:=Tryz.prog) w.drew #[3] 195 5 Tryz.underlying195 n hn
 have hw:IntKind.i64.wrap (IntKind.i64.wrap 0+(n:Int))=n:=by
  rw [IntKind.wrap_i64,IntKind.wrap_i64]
  omega
 have hcall:(callFunc 284 #[.int .i64 (IntKind.i64.wrap (IntKind.i64.wrap 0+(n:Int)))]).run Tryz.prog w.drew=.ok (.value (.slice (some ⟨w.drew.heap.size,0,none⟩) n cs.size)) (w.drew.drew.drew.alloc (.cells cs 5)):=by
  rw [hw,run_callFunc_extern Tryz.func284 (by kernel_rfl) (by kernel_rfl) (by kernel_rfl) (e:=Extern.BytealgMakeNoZero.makeNoZero #[3] #[195]) (by kernel_rfl),hrun]
  rfl
 have c1:w.drew.cell? ⟨b,1,none⟩=some (.slice none 0 0):=by
  have:w.drew.heap[b]? = _:=hbk
  rw [Lib.cell_of_heap this];rfl
 have c2:(w.alloc (.cells cs 5)).cell? ⟨b,1,none⟩=some (.slice none 0 0):=by
  have hlt:b < w.heap.size:=by
   rcases Nat.lt_or_ge b w.heap.size with h' | h'
   ·exact h'
   ·simp [Array.getElem?_eq_none h'] at hbk
  have:(w.alloc (.cells cs 5)).heap[b]? = _:=(Lib.alloc_old w _ b hlt).trans hbk
  rw [Lib.cell_of_heap this];rfl
 have f2:(w.alloc (.cells cs 5)).frozen? ⟨b,1,none⟩=false:=by
  have hlt:b < w.heap.size:=by
   rcases Nat.lt_or_ge b w.heap.size with h' | h'
   ·exact h'
   ·simp [Array.getElem?_eq_none h'] at hbk
  exact Lib.frozen_of_heap ((Lib.alloc_old w _ b hlt).trans hbk) 1
 have hcopy:∀ W:World,(Builtin.copy_ #[195,195] 3 #[.slice (some ⟨w.heap.size,0,none⟩) 0 cs.size,.slice none 0 0]).run Tryz.prog W=.ok (goInt 0) W :=
  fun W=>run_copy_none W 195 195 3 5 _ _ 0 cs.size 0 0 Tryz.underlying195 (by rw [hi];exact congrArg some hz1) rfl
 clear hw
 go_enter Tryz.func240,Tryz.ntmps240
 go_wp2
 have hfin:=Lib.grown_fresh (T:=197) (e:=5) (cs:=cs) hB hbk hBw (hmax (by unfold maxLen;omega)) (by decide)
 go_region
 all_goals (go_wp2;go_end0;exact ⟨rfl,hfin.1,hfin.2,_,World.cell?_setCell_same _ _ _ c2,hle⟩)

set_option maxHeartbeats 2000000 in
set_option maxRecDepth 1000000 in
theorem sb_Grow_in (B b n:Nat) (w:World) (hB:B≤b) (hbk:w.heap[b]? = some (.cells #[.pointer none,.slice none 0 0] 197 (0,0))) (hBw:B≤w.heap.size) (hn:n≤281474976710656) (hn0:0 < n) :
  Calls Tryz.prog 168 #[.pointer (some ⟨b,0,none⟩),.int .i64 n] w fun e w'=>e=.returned (.tuple #[])∧(Lib.BuilderAt 197 5 B b (.pointer (some ⟨b,0,none⟩)) [] w'∧Below B w w'∧∃ v,w'.cell? ⟨b,1,none⟩=some v∧n≤capV v):=by
 have hbk1:(w.setCell ⟨b,0,none⟩ (.pointer (some ⟨b,0,none⟩))).heap[b]? = some (.cells #[.pointer (some ⟨b,0,none⟩),.slice none 0 0] 197 (0,0)):=by
  simp [World.setCell,Array.getElem?_modify,hbk]
 have c1:(w.setCell ⟨b,0,none⟩ (.pointer (some ⟨b,0,none⟩))).cell? ⟨b,1,none⟩=some (.slice none 0 0):=by rw [Lib.cell_of_heap hbk1];rfl
 have hb1:Below B w (w.setCell ⟨b,0,none⟩ (.pointer (some ⟨b,0,none⟩))):=(Below.refl B w).setCell (p:=⟨b,0,none⟩) hB _
 go_enter Tryz.func168,Tryz.ntmps168
 have hU:Lib.BuilderAt 197 5 B b (.pointer (some ⟨b,0,none⟩)) [] (w.setCell ⟨b,0,none⟩ (.pointer (some ⟨b,0,none⟩))):=⟨hB,.slice none 0 0,hbk1,World.ownsRow_nil _ _ _ _,by simp [Value.ownBlock]⟩
 have c1':(w.setCell ⟨b,0,none⟩ (.pointer (some ⟨b,0,none⟩))).drew.cell? ⟨b,1,none⟩=some (.slice none 0 0):=c1
 go_wp2_with (go_at_call 239;refine (sb_copyCheck_fresh b w (by rw [Lib.cell_of_heap hbk];rfl) (by simp [World.shape?,hbk]) (Lib.frozen_of_heap hbk 0)).mono ?_;rintro e w' ⟨rfl,rfl⟩)
 go_region
 all_goals go_wp2_with (go_at_call 240;refine (sb_grow_in B b n (w.setCell ⟨b,0,none⟩ (.pointer (some ⟨b,0,none⟩))).drew hB hbk1 (by simpa [World.setCell,World.drew,-World.drew_eq] using hBw) hn).mono ?_;rintro e w' ⟨rfl,h1,h2,h3⟩)
 all_goals (go_end0;exact ⟨rfl,h1,hb1.drew.trans h2,h3⟩)

set_option maxHeartbeats 2000000 in
set_option maxRecDepth 100000 in
theorem sb_Write_in (B b C:Nat) (l:List UInt8) (s:ByteArray) (w:World) (h:SbU B b l C w) (hlen:l.length+s.size≤C) (hC:C≤281474976710656) (hBw:B≤w.heap.size) :
  Calls Tryz.prog 169 #[.pointer (some ⟨b,0,none⟩),.string s] w fun e w'=>e=.returned (.tuple #[.int .i64 s.size,.nilIface])∧(SbU B b (l++bl s) C w'∧Below B w w'):=by
 obtain ⟨i0,hi,hz0,hz1,hz2⟩:=info_parts sb_byte
 obtain ⟨hu,v,hv,hcv⟩:=h
 have hbl:(Lib.byteCells l).length=l.length:=by simp [Lib.byteCells]
 have H0:=hu.cell0
 obtain ⟨hB,v1,hbk,hown,hne⟩:=hu
 have c1:w.cell? ⟨b,1,none⟩=some v1:=by rw [Lib.cell_of_heap hbk];rfl
 obtain rfl:v1=v:=Option.some.inj (c1.symm.trans hv)
 have HL:=Lib.hid (show (Lib.byteCells l).length+s.size≤C by omega)
 have HC:=Lib.hid hC
 have HV:=Lib.hid hcv
 clear hlen hbl hC hcv hv
 go_enter Tryz.func169,Tryz.ntmps169
 go_wp2_with (go_at_call 239;refine (sb_copyCheck_used b _ H0).mono ?_)
 rintro e w' ⟨rfl,rfl⟩
 go_wp2_with (at_builtin;refine wpList_append_in _ rfl _ _ 195 9 rfl B 5 i0 Tryz.underlying195 Tryz.underlying9 hi hz0 hz1 hz2 _ _ _ rfl hown s rfl ?c3 ?c4 ?c5 ?_)
 case c3=>have:=HL.out;have:=HC.out;unfold maxLen;omega
 case c4=>exact Nat.le_trans HL.out HV.out
 case c5=>omega
 intro v' w2 hown' hgrow hcap
 have hlt:b < w'.heap.size:=by
  rcases Nat.lt_or_ge b w'.heap.size with h' | h'
  ·exact h'
  ·simp [Array.getElem?_eq_none h'] at hbk
 have hb2:w2.heap[b]? = some (.cells #[.pointer (some ⟨b,0,none⟩),v1] 197 (0,0)):=by
  rw [hgrow.block b hlt (fun e=>hne e.symm)]
  exact hbk
 have d0:w2.cell? ⟨b,0,none⟩=some (.pointer (some ⟨b,0,none⟩)):=by rw [Lib.cell_of_heap hb2];rfl
 have d1:w2.cell? ⟨b,1,none⟩=some v1:=by rw [Lib.cell_of_heap hb2];rfl
 have f1:w2.frozen? ⟨b,1,none⟩=false:=Lib.frozen_of_heap hb2 1
 have HCP:=Lib.hid (show C≤capV v' by rw [hcap];exact HV.out)
 obtain ⟨ao,n',cap,rfl⟩:∃ ao n' cap,v'=.slice ao n' cap:=by
  rcases hown'.2 with ⟨hv,_⟩ | ⟨g,cap,cur,fz,hv,_⟩
  ·exact ⟨_,_,_,hv⟩
  ·exact ⟨_,_,_,hv⟩
 go_wp2
 go_ret2
 refine ⟨rfl,⟨?_,_,World.cell?_setCell_same _ _ _ d1,HCP.out⟩,?_⟩
 ·have e1:Lib.byteCells (l++bl s)=Lib.byteCells l++Lib.strCells s:=by rw [strCells_eq];simp [Lib.byteCells]
  rw [e1]
  exact Lib.BuilderAtF.put (T:=197) (e:=5) hB hb2 (bs':=Lib.byteCells l++Lib.strCells s) (by simpa [Lib.strCells_length] using hown') (by decide)
 ·exact (((Below.refl B _).grown hgrow hBw (fun k hk=>(hown.lt k hk).1))).setCell (p:=⟨b,1,none⟩) hB _
end
section
open Go.RowKit Go.Shelf

set_option maxHeartbeats 8000000 in
set_option maxRecDepth 100000 in
theorem str_Join_big (bk o c:Nat) (xs:List ByteArray) (sep:ByteArray) (w:World)
  (hcells:∀ (j:Nat) x,xs[j]? = some x→w.cell? ⟨bk,o+j,none⟩=some (.string x))
  (hbk:bk < w.heap.size) (h2:2≤xs.length) (hN:xs.length≤1000000) (hcap:xs.length≤c)
  (hlen:(Lib.join (xs.map (·.data.toList)) sep.data.toList).length≤281474976710656)
  (hpos:0 < (Lib.join (xs.map (·.data.toList)) sep.data.toList).length) :
  Calls Tryz.prog 90 #[.slice (some ⟨bk,o,none⟩) xs.length c,.string sep] w fun e w'=>e=.returned (.string ⟨(Lib.join (xs.map (·.data.toList)) sep.data.toList).toArray⟩)∧Below w.heap.size w w':=by
 have HC:=Any.hidJ hcells
 clear hcells
 obtain ⟨x0,r,hxs⟩:∃ x0 r,xs=x0 :: r:=by
  cases xs with
  | nil=>simp at h2
  | cons a t=>exact ⟨a,t,rfl⟩
 have hjl:sep.size * (xs.length - 1)+Lib.lens (xs.map (·.data.toList))≤281474976710656∧0 < sep.size * (xs.length - 1)+Lib.lens (xs.map (·.data.toList)):=by
  have:=Lib.join_length x0.data.toList (r.map (·.data.toList)) sep.data.toList
  rw [hxs] at hlen hpos ⊢
  simp only [List.map_cons] at hlen hpos ⊢
  rw [this,List.length_map] at hlen hpos
  rw [Lib.size_eq,List.length_cons,Nat.add_sub_cancel]
  exact ⟨hlen,hpos⟩
 have hmul:sep.size * (xs.length - 1)≤281474976710656:=by omega
 generalize hM:sep.size * (xs.length - 1)=M at hjl hmul
 have hcast:((xs.length:Int) - 1)=((xs.length - 1:Nat):Int):=by omega
 have hlt:sep.size < 9223372036854775807 / (xs.length - 1):=by
  have:sep.size+1≤9223372036854775807 / (xs.length - 1):=by
   rw [Nat.le_div_iff_mul_le (by omega),Nat.add_mul,hM]
   omega
  omega
 have hdv:¬ (9223372036854775807 / ((xs.length:Int) - 1)≤(sep.size:Int)):=by
  have e:(9223372036854775807:Int) / ((xs.length - 1:Nat):Int)=((9223372036854775807 / (xs.length - 1):Nat):Int):=IntWalk.up_div (x:=9223372036854775807) rfl rfl
  rw [hcast,e]
  generalize 9223372036854775807 / (xs.length - 1)=q at hlt
  omega
 have hprod:wrap64 ((sep.size:Int) * ((xs.length:Int) - 1))=(M:Int):=by
  have e:(sep.size:Int) * ((xs.length - 1:Nat):Int)=((sep.size * (xs.length - 1):Nat):Int):=IntWalk.up_mul rfl rfl
  rw [hcast,e,hM]
  exact IntWalk.wrap64_in _ ⟨by omega,by omega⟩
 have hM0:sep.size=0→M=0:=fun h=>by rw [← hM,h,Nat.zero_mul]
 clear hlt hcast
 have hne0:((xs.length:Int) == 0)=false:=beq_eq_false_iff_ne.2 (by omega)
 have hne1:((xs.length:Int) == 1)=false:=beq_eq_false_iff_ne.2 (by omega)
 have Hxs:=Any.hidJ hxs
 have Hlen:=Any.hidJ hlen
 clear hxs hlen hpos
 go_enter Tryz.func90,Tryz.ntmps90
 go_wp2_with fail
 all_goals (
  go_loop [5,41] (fun n i => ∃ k:Nat,k≤xs.length∧i=.int .i64 k∧n=.int .i64 ((M+Lib.lens ((xs.map (·.data.toList)).take k):Nat):Int)) (fun _ i=>xs.length - (intOf i).toNat)
  case atStart=>exact ⟨0,Nat.zero_le _,rfl,by first | (simp [Lib.lens];done) | (have:=hM0 (by omega);simp [Lib.lens,this])⟩
  case round =>
   obtain ⟨k,hk,rfl,rfl⟩:=hrel
   by_cases hkn:k < xs.length
   ·obtain ⟨x,hx⟩:∃ x,xs[k]? = some x:=⟨xs[k],List.getElem?_eq_getElem hkn⟩
    have hc:=HC.out k x hx
    have hstep:=Lib.lens_take_succ (xs.map (·.data.toList)) k x.data.toList (by simp [hx])
    have hbound:Lib.lens ((xs.map (·.data.toList)).take (k+1))≤Lib.lens (xs.map (·.data.toList)):=Lib.lens_take_le _ _
    rw [← Lib.size_eq] at hstep
    generalize hA1:Lib.lens ((xs.map (·.data.toList)).take (k+1))=A1 at hstep hbound
    generalize Lib.lens ((xs.map (·.data.toList)).take k)=A0 at hstep
    have HA1:=Any.hidJ hA1
    clear hA1
    go_wp2
    exact ⟨⟨k+1,by omega,by go_num,by rw [HA1.out];refine congrArg _ ?_;omega⟩,by simp [intOf];omega⟩
   ·have hke:k=xs.length:=by omega
    subst hke
    have HMT:=Any.hidJ (show (Lib.join (xs.map (·.data.toList)) sep.data.toList).length=M+Lib.lens (xs.map (·.data.toList)) by have:=Lib.join_length x0.data.toList (r.map (·.data.toList)) sep.data.toList;rw [Hxs.out] at hM ⊢;simp only [List.map_cons];rw [this,List.length_map,← hM,Lib.size_eq,List.length_cons,Nat.add_sub_cancel])
    have hall:(xs.map (·.data.toList)).take xs.length=xs.map (·.data.toList):=List.take_of_length_le (by simp)
    rw [hall]
    generalize hT:Lib.lens (xs.map (·.data.toList))=T at hjl HMT
    have HT:=Any.hidJ hT
    clear hT hall
    go_wp2_with fail
    have hMT:((M:Int)+(T:Int))=((M+T:Nat):Int):=by omega
    rw [hMT]
    refine (sb_Grow_in w.heap.size w.heap.size (M+T) _ (Nat.le_refl _) (heap_alloc_new w _) (by simp) (by omega) (by omega)).mono ?_
    rintro e w1 ⟨rfl,h1,hb1,hcapv⟩
    have hb1':Below w.heap.size w w1:=((Below.refl w.heap.size w).alloc (Nat.le_refl _) _).trans hb1
    have hx0:xs[0]? = some x0:=by rw [Hxs.out];rfl
    have hc0:w1.cell? ⟨bk,o,none⟩=some (.string x0):=by
     rw [hb1'.cell (p:=⟨bk,o,none⟩) hbk]
     exact HC.out 0 x0 hx0
    have H1:=Any.hidJ (⟨Lib.BuilderAtF.of h1,hcapv⟩:SbU w.heap.size w.heap.size [] (M+T) w1)
    have Hb1:=Any.hidJ hb1'
    have hBw1:w.heap.size≤w1.heap.size:=hb1'.size
    clear h1 hb1 hb1' hMT hcapv
    have hwhole:Lib.join (xs.map (·.data.toList)) sep.data.toList=x0.data.toList++Lib.joinTail sep.data.toList (r.map (·.data.toList)):=by
     rw [Hxs.out,List.map_cons,Lib.join_cons]
    have hCle:∀ k,(x0.data.toList++Lib.joinTail sep.data.toList ((r.map (·.data.toList)).take k)).length≤M+T:=fun k=>by
     have h1:=HMT.out
     rw [hwhole,List.length_append] at h1
     have h2:=Lib.joinTail_take_le sep.data.toList (r.map (·.data.toList)) k
     rw [List.length_append]
     omega
    have HCle:=Any.hidJ hCle
    have Hwhole:=Any.hidJ hwhole
    clear hCle hwhole
    go_wp2_with fail
    refine (sb_Write_in w.heap.size w.heap.size (M+T) [] x0 w1 H1.out (by have:=HCle.out 0;simp [Lib.joinTail] at this ⊢;omega) (by omega) hBw1).mono ?_
    rintro e w2 ⟨rfl,h2',hb2⟩
    have hstart:([]:List UInt8)++bl x0=x0.data.toList++Lib.joinTail sep.data.toList ((r.map (·.data.toList)).take 0):=by
     simp [Lib.joinTail,bl]
    rw [hstart] at h2'
    have H2:=Any.hidJ h2'
    have Hb2:=Any.hidJ (Hb1.out.trans hb2)
    clear h2' hb2 hstart
    have hrl:r.length=xs.length - 1:=by rw [Hxs.out];simp
    go_wp2_with fail
    go_loopw [65] (fun i wr => ∃ k:Nat,k≤r.length∧i=.int .i64 k∧Hid (SbU w.heap.size w.heap.size (x0.data.toList++Lib.joinTail sep.data.toList ((r.map (·.data.toList)).take k)) (M+T) wr)∧Hid (Below w.heap.size w wr)) (fun i _=>r.length - (intOf i).toNat)
    case atStart=>exact ⟨0,Nat.zero_le _,rfl,H2,Hb2⟩
    case round =>
     obtain ⟨k,hk',rfl,HB,HW⟩:=hrel
     by_cases hkr:k < r.length
     ·obtain ⟨y,hy⟩:∃ y,r[k]? = some y:=⟨r[k],List.getElem?_eq_getElem hkr⟩
      have hxy:xs[k+1]? = some y:=by rw [Hxs.out];simpa using hy
      have hcy:wr.cell? ⟨bk,o+1+k,none⟩=some (.string y):=by
       rw [HW.out.cell (p:=⟨bk,o+1+k,none⟩) hbk,show o+1+k=o+(k+1) by omega]
       exact HC.out (k+1) y hxy
      have hBw:w.heap.size≤wr.heap.size:=HW.out.size
      have hnext:x0.data.toList++Lib.joinTail sep.data.toList ((r.map (·.data.toList)).take k)++bl sep++bl y=x0.data.toList++Lib.joinTail sep.data.toList ((r.map (·.data.toList)).take (k+1)):=by
       rw [Lib.joinTail_take_succ sep.data.toList (r.map (·.data.toList)) k y.data.toList (by simp [hy])]
       simp only [bl,List.append_assoc]
      have hl1:=HCle.out (k+1)
      rw [Lib.joinTail_take_succ sep.data.toList (r.map (·.data.toList)) k y.data.toList (by simp [hy])] at hl1
      simp only [List.length_append,← Lib.size_eq] at hl1
      have hl0:(x0.data.toList++Lib.joinTail sep.data.toList ((r.map (·.data.toList)).take k)).length=x0.size+(Lib.joinTail sep.data.toList ((r.map (·.data.toList)).take k)).length:=by
       rw [List.length_append,← Lib.size_eq]
      have hl2:(x0.data.toList++Lib.joinTail sep.data.toList ((r.map (·.data.toList)).take k)++bl sep).length=x0.size+(Lib.joinTail sep.data.toList ((r.map (·.data.toList)).take k)).length+sep.size:=by
       rw [List.length_append,hl0,Lib.size_eq sep]
      generalize (Lib.joinTail sep.data.toList ((r.map (·.data.toList)).take k)).length=J at hl0 hl1 hl2
      have Hn:=Any.hidJ hnext
      have HL0:=Any.hidJ hl0
      have HL2:=Any.hidJ hl2
      clear hnext hy hxy hl0 hl2
      go_wp2_with fail
      refine (sb_Write_in w.heap.size w.heap.size (M+T) _ sep wr HB.out (by rw [HL0.out];omega) (by omega) hBw).mono ?_
      rintro e w3 ⟨rfl,h3,hb3⟩
      have hBw3:w.heap.size≤w3.heap.size:=Nat.le_trans hBw hb3.size
      have H3:=Any.hidJ h3
      have Hb3:=Any.hidJ hb3
      clear h3 hb3
      go_wp2_with fail
      refine (sb_Write_in w.heap.size w.heap.size (M+T) _ y w3 H3.out (by rw [HL2.out];omega) (by omega) hBw3).mono ?_
      rintro e w4 ⟨rfl,h4,hb4⟩
      rw [Hn.out] at h4
      have H4:=Any.hidJ h4
      have Hb4:=Any.hidJ ((HW.out.trans Hb3.out).trans hb4)
      clear h4 hb4
      go_wp2
      exact ⟨⟨k+1,by omega,by go_num,H4,Hb4⟩,by simp [intOf];omega⟩
     ·have hke:k=r.length:=by omega
      subst hke
      have hfull:(r.map (·.data.toList)).take r.length=r.map (·.data.toList):=List.take_of_length_le (by simp)
      have hB':=HB.out
      rw [hfull,← Hwhole.out] at hB'
      have hBw:w.heap.size≤wr.heap.size:=HW.out.size
      go_wp2_with fail
      refine (Tryz.Builder_String_any_f w.heap.size w.heap.size _ wr (.inr hB'.1) hBw).mono ?_
      rintro e w5 ⟨rfl,_,hb5⟩
      have Hb5:=Any.hidJ (HW.out.trans hb5)
      clear hb5 hB'
      go_wp2
      go_ret
      exact ⟨rfl,Hb5.out⟩)

theorem str_JoinB (v:Value) (xs:List ByteArray) (sep:ByteArray) (w:World) (h:SlA w 1 v xs.length (strs xs)) (hN:xs.length≤1000000) (hlen:(joinB xs sep).size≤281474976710656) :
  Calls Tryz.prog 90 #[v,.string sep] w fun e w'=>e=.returned (.string (joinB xs sep))∧Below w.heap.size w w':=by
 by_cases hsm:(joinB xs sep).size≤140737488355328
 ·exact str_Join v xs sep w h hN hsm
 obtain ⟨ao,c,rfl⟩:=h.form
 by_cases h0:xs.length=0
 ·have hx:xs=[]:=List.eq_nil_of_length_eq_zero h0
  subst hx
  refine (str_Join_none ao c sep w).mono ?_
  rintro e w' ⟨rfl,rfl⟩
  exact ⟨rfl,Below.refl _ _⟩
 ·obtain ⟨b1,o1,c1,he1,hc1,hm1,hb1,hx1⟩:=h.pos (by omega)
  simp only [Value.slice.injEq,true_and] at he1
  obtain ⟨rfl,rfl⟩:=he1
  have hcl:∀ (j:Nat) x,xs[j]? = some x→w.cell? ⟨b1,o1+j,none⟩=some (.string x):=fun j x hj=>hx1 j _ (by unfold strs;rw [List.getElem?_map,hj];rfl)
  by_cases h1:xs.length=1
  ·obtain ⟨x,hx⟩:=List.length_eq_one_iff.1 h1
   subst hx
   refine (str_Join_one b1 o1 c x sep w (by have:=hcl 0 x rfl;simpa using this)).mono ?_
   rintro e w' ⟨rfl,rfl⟩
   exact ⟨by rw [joinB_one],Below.refl _ _⟩
  ·have hjs:(joinB xs sep).size=(Lib.join (xs.map (·.data.toList)) sep.data.toList).length:=by unfold joinB;simp [ByteArray.size,bl]
   refine (str_Join_big b1 o1 c xs sep w hcl hb1 (by omega) (by omega) hc1 (by omega) (by omega)).mono ?_
   rintro e w' ⟨rfl,hb⟩
   exact ⟨rfl,hb⟩
end
section
open Go.RowKit Go.Shelf

theorem own_full {w:World} (cs:List Value) (e:TypeId) (size n base:Nat) (h:cs.length=n * size) (hb:base≤w.heap.size) (hm:n≤maxLen) :
  (w.alloc (.cells cs.toArray e)).ownsRow base e size (.slice (some ⟨w.heap.size,0,none⟩) n n) n cs :=
 ⟨h,.inr ⟨w.heap.size,n,cs.toArray,rfl,hb,heap_alloc_new w _,Nat.le_refl _,hm,by simpa using h,by simp [← h]⟩⟩
def wordM (k:Int):ByteArray:=if k=1 then ⟨#[99,108,111,115,101,100]⟩ else if k=2 then ⟨#[98,111,117,110,100]⟩ else if k=3 then ⟨#[102,114,101,101]⟩ else if k=4 then ⟨#[118,111,105,100]⟩ else emp
def moreM (lo hi:List ByteArray):List ByteArray:=(hi.filter (fun x => !hasB lo x)).map (fun x=>x++⟨#[63]⟩)
def lineM (x:MR):ByteArray:=if 1≤x.k∧x.k≤4 then joinB (roleT x.r :: wordM x.k :: (x.lo++moreM x.lo x.hi)) ⟨#[32]⟩ else emp
theorem word_no {k:Int} (h:¬ (1≤k∧k≤4)):wordM k=emp:=by
 unfold wordM
 rw [if_neg (by omega),if_neg (by omega),if_neg (by omega),if_neg (by omega)]
theorem word_yes {k:Int} (h:1≤k∧k≤4):¬ wordM k=emp:=by
 have hk:k=1∨k=2∨k=3∨k=4:=by omega
 rcases hk with rfl | rfl | rfl | rfl <;> decide
theorem word_len (k:Int):(wordM k).size≤6:=by
 unfold wordM
 split
 ·decide
 split
 ·decide
 split
 ·decide
 split <;> decide
theorem mat_word (k:Int) (w:World):Calls Tryz.prog 87 #[.int .i64 k] w fun e w'=>e=.returned (.string (wordM k))∧w'=w:=by
 by_cases h1:k=1
 ·subst h1;go_enter Tryz.func87,Tryz.ntmps87
  go_wp2;go_ret;exact ⟨rfl,rfl⟩
 by_cases h2:k=2
 ·subst h2;go_enter Tryz.func87,Tryz.ntmps87
  go_wp2;go_ret;exact ⟨rfl,rfl⟩
 by_cases h3:k=3
 ·subst h3;go_enter Tryz.func87,Tryz.ntmps87
  go_wp2;go_ret;exact ⟨rfl,rfl⟩
 by_cases h4:k=4
 ·subst h4;go_enter Tryz.func87,Tryz.ntmps87
  go_wp2;go_ret;exact ⟨rfl,rfl⟩
 have R:=Lib.hid (word_no (k:=k) (by omega))
 have d1:(k == 1)=false:=by simp [h1]
 have d2:(k == 2)=false:=by simp [h2]
 have d3:(k == 3)=false:=by simp [h3]
 have d4:(k == 4)=false:=by simp [h4]
 clear h1 h2 h3 h4
 go_enter Tryz.func87,Tryz.ntmps87
 go_wp2
 go_ret
 exact ⟨by rw [R.out];rfl,rfl⟩
theorem lens_le {M:Nat}:∀ (xs:List ByteArray),(∀ x∈xs,x.size≤M)→Lib.lens (xs.map bl)≤xs.length * M
 | [],_=>by simp [Lib.lens]
 | x :: r,h=>by
  have h1:=lens_le r (fun y hy=>h y (List.mem_cons_of_mem _ hy))
  have h2:=h x (List.mem_cons_self ..)
  have h3:(bl x).length=x.size:=(Lib.size_eq x).symm
  simp only [Lib.lens,List.map_cons,List.sum_cons,List.length_cons] at h1 ⊢
  rw [Nat.succ_mul]
  omega
theorem joinB_size_cons {M:Nat} {x:ByteArray} {xs:List ByteArray} {sep:ByteArray} (h:∀ y∈xs,y.size≤M):(joinB (x :: xs) sep).size≤x.size+xs.length * (M+sep.size):=by
 have e:(joinB (x :: xs) sep).size=(Lib.join ((x :: xs).map bl) (bl sep)).length:=by unfold joinB;simp [ByteArray.size]
 have h1:=lens_le xs h
 have h2:=Lib.join_length (bl x) (xs.map bl) (bl sep)
 have h3:(bl sep).length=sep.size:=(Lib.size_eq sep).symm
 have h5:(bl x).length=x.size:=(Lib.size_eq x).symm
 rw [e,List.map_cons,h2,List.length_map,h3]
 have h6:Lib.lens (bl x :: xs.map bl)=x.size+Lib.lens (xs.map bl):=by simp only [Lib.lens,List.map_cons,List.sum_cons,h5]
 rw [h6,Nat.mul_add,Nat.mul_comm sep.size]
 omega
theorem joinB_cons (x:ByteArray) (r:List ByteArray) (sep:ByteArray):bl (joinB (x :: r) sep)=bl x++Lib.joinTail (bl sep) (r.map bl):=by
 unfold joinB
 rw [List.map_cons,Lib.join_cons]
theorem more_snoc {lo hi:List ByteArray} {j:Nat} (hj:j < hi.length):moreM lo (hi.take (j+1))=moreM lo (hi.take j)++(if hasB lo hi[j]=true then [] else [hi[j]++⟨#[63]⟩]):=by
 unfold moreM
 rw [take_filter hj,List.map_append]
 cases hasB lo hi[j] <;> rfl
theorem more_len (lo hi:List ByteArray):(moreM lo hi).length≤hi.length:=by unfold moreM;rw [List.length_map];exact List.length_filter_le _ _
theorem more_le {lo hi:List ByteArray} {M:Nat} (h:∀ x∈hi,x.size≤M):∀ x∈moreM lo hi,x.size≤M+1:=fun x hx=>by
 obtain ⟨y,hy,rfl⟩:=List.mem_map.1 hx
 have:=h y (List.mem_filter.1 hy).1
 simp [ByteArray.size_append]
 have e:(⟨#[63]⟩:ByteArray).size=1:=rfl
 omega
theorem syn_PrintRoleL (r:Rl) (w:World) (hs:r.le 1000000000000000):Calls Tryz.prog 88 #[rv r] w fun e w'=>e=.returned (.string (roleT r))∧Below w.heap.size w w':=by
 obtain ⟨o,n⟩:=r
 obtain ⟨h1,h2⟩:=hs
 dsimp only at h1 h2
 go_enter Tryz.func88,Tryz.ntmps88
 go_wp2
 go_ret
 exact ⟨rfl,(Below.refl _ _).alloc (Nat.le_refl _) _⟩
theorem ref3_RoleL (r:Rl) (w:World) (hs:r.le 1000000000000000):Calls Tryz.prog 91 #[rv r] w fun e w'=>e=.returned (.string (roleT r))∧Below w.heap.size w w':=by
 obtain ⟨o,n⟩:=r
 obtain ⟨h1,h2⟩:=hs
 dsimp only at h1 h2
 go_enter Tryz.func91,Tryz.ntmps91
 go_wp2
 go_ret
 exact ⟨rfl,(Below.refl _ _).alloc (Nat.le_refl _) _⟩
structure MV.fits (x:MV):Prop where
 r:x.s.r.le 140737488351232
 lo:∀ s∈x.s.lo,s.size≤40
 hi:∀ s∈x.s.hi,s.size≤40
 ll:x.s.lo.length≤60
 hl:x.s.hi.length≤60
theorem roleT_len {r:Rl} {M:Nat} (h:r.le M):(roleT r).size≤2 * M+1:=by
 unfold roleT
 rw [ByteArray.size_append,ByteArray.size_append]
 have e:(⟨#[46]⟩:ByteArray).size=1:=rfl
 have:=h.1
 have:=h.2
 omega
set_option maxRecDepth 100000 in
set_option maxHeartbeats 8000000 in
theorem mat_Line (x:MV) (w:World) (hx:x.ok w) (hf:x.fits):Calls Tryz.prog 19 #[mv x] w fun e w'=>e=.returned (.string (lineM x.s))∧Below w.heap.size w w':=by
 have HLo:=Lib.hid hx.1
 have HHi:=Lib.hid hx.2
 have HF:=Lib.hid hf
 have hll:=hf.ll
 have hhl:=hf.hl
 obtain ⟨⟨r,lo,hi,op,k⟩,lv,hv⟩:=x
 dsimp only at HLo HHi hll hhl
 obtain ⟨la,lc,rfl⟩:=HLo.out.form
 obtain ⟨ha,hc,rfl⟩:=HHi.out.form
 obtain ⟨r1,r2⟩:=r
 have HT:=Lib.hid (show OneAt w #[.string r1,.string r2,.slice la lo.length lc,.slice ha hi.length hc,.bool op,.int .i64 k] (w.alloc (.cells #[.string r1,.string r2,.slice la lo.length lc,.slice ha hi.length hc,.bool op,.int .i64 k] 40)) from ⟨Blk.new w _ _,(Below.refl _ _).alloc (Nat.le_refl _) _⟩)
 have WD:=Lib.hid (fun W=>mat_word k W)
 clear hx hf
 by_cases hk:1≤k∧k≤4
 ·have hwd:=word_yes hk
  have hwl:=word_len k
  have RES:=Lib.hid (show lineM ⟨⟨r1,r2⟩,lo,hi,op,k⟩=joinB (roleT ⟨r1,r2⟩ :: wordM k :: (lo++moreM lo hi)) ⟨#[32]⟩ from if_pos hk)
  have PR:=Lib.hid (fun W=>syn_PrintRoleL ⟨r1,r2⟩ W (HF.out.r.mono (by decide)))
  have hrl:=roleT_len HF.out.r
  dsimp only at hrl
  generalize wordM k=wd at *
  generalize roleT ⟨r1,r2⟩=rt at *
  have dw:(wd.toList == (⟨#[]⟩:ByteArray).toList)=false:=by rw [beq_str];exact decide_eq_false hwd
  have dw2:(wd.toList == [])=false:=by rw [beq_eq_false_iff_ne];exact fun e=>hwd (toList_emp.1 e)
  clear hwd hk
  have HT0:=HT
  go_enter Tryz.func19,Tryz.ntmps19
  go_wp2_with fail
  refine (WD.out _).mono ?_
  rintro e w1 ⟨rfl,hw1⟩
  subst hw1
  go_wp2_with fail
  refine wp_region_held_drew (S:=(fun W => ∀ o,W.cell? ⟨w.heap.size,o,none⟩=(#[.string r1,.string r2,.slice la lo.length lc,.slice ha hi.length hc,.bool op,.int .i64 k]:Array Value)[o]?)) (by kernel_rfl) HT0.out.drew.a.1 (fun hHeld=>?_)
  have HT:=HT0.out.drew
  obtain ⟨wk,hwk⟩:∃ W,W=(w.alloc (.cells #[.string r1,.string r2,.slice la lo.length lc,.slice ha hi.length hc,.bool op,.int .i64 k] 40)).drew:=⟨_,rfl⟩
  rw [← hwk] at HT hHeld ⊢
  clear hwk HT0
  obtain ⟨si,hsi,hs0,hs1,hs2⟩:=info_parts str_info
  have HSI:=Lib.hid hsi
  clear hsi
  (refine hyes 0 ?_);(refine hyes 1 ?_);(refine hyes 3 ?_);(refine hyes 4 ?_);(refine hyes 7 ?_);(refine hyes 8 ?_);(try simp only [Act.put,List.setIfInBounds_toArray,List.set])
  (refine held_call 2 rfl (by kernel_rfl) (fun K hK=>?_);go_simp)
  go_at_call 88;refine (PR.out _).mono ?_;rintro e wz2 ⟨rfl,hbq⟩
  have HT:=HT.later hbq
  clear hbq PR
  (refine hK.out _ _ (HT.a.1) (fun hHeld=>?_);clear hK K;(try simp only [Act.put,List.setIfInBounds_toArray,List.set]))
  (refine held_call 5 rfl (by kernel_rfl) (fun K hK=>?_);go_simp)
  go_at_call 87;refine (WD.out _).mono ?_;rintro e wz5 ⟨rfl,rfl⟩
  (refine hK.out _ _ (HT.a.1) (fun hHeld=>?_);clear hK K;(try simp only [Act.put,List.setIfInBounds_toArray,List.set]))
  (refine held_call 6 rfl (by kernel_rfl) (fun K hK=>?_);go_simp)
  obtain ⟨wn,hwn⟩:∃ V,V=wz5.alloc (.cells #[.string rt,.string wd] 9):=⟨_,rfl⟩
  obtain ⟨bn,hbn⟩:∃ b,b=wz5.heap.size:=⟨_,rfl⟩
  rw [← hwn,← hbn]
  have hbq:Below wz5.heap.size wz5 wn:=by rw [hwn];exact (Below.refl _ _).alloc (Nat.le_refl _) _
  have HO:=Lib.hid (show wn.ownsRow (w.heap.size+1) 9 1 (.slice (some ⟨bn,0,none⟩) 2 2) 2 (strs [rt,wd]) by rw [hwn,hbn];exact own_full (strs [rt,wd]) 9 1 2 (w.heap.size+1) rfl HT.a.2.2 (by decide))
  have HT:=HT.later hbq
  clear hbq hwn hbn
  (refine hK.out _ _ (HT.a.1) (fun hHeld=>?_);clear hK K;(try simp only [Act.put,List.setIfInBounds_toArray,List.set]))
  refine held_call 9 rfl (by kernel_rfl) (fun K hK=>?_)
  have hsz:w.heap.size+1≤wn.heap.size:=HT.a.2.2
  refine step_row rfl _ _ 38 rfl (w.heap.size+1) 9 si _ 1 16 Tryz.underlying38 HSI.out hs0 hs1 hs2 (by decide) rfl (by decide) _ 2 _ rfl HO.out _ lo.length _ rfl (HLo.out.below HT.low) (strs_one lo) (by omega) hsz ?_
  intro a5 c5 wc hown5 hg5
  have HT2:OneAt w #[.string r1,.string r2,.slice la lo.length lc,.slice ha hi.length hc,.bool op,.int .i64 k] wc:=⟨HT.a.grown hg5 (fun e=>by have:=(HO.out.lt _ e.symm).1;omega),below_own HT.low HO.out hg5 HT.low.size (by omega)⟩
  have HO5:=Lib.hid hown5
  clear hown5 hg5 HO HT hsz
  (refine hK.out _ _ (HT2.a.1) (fun hHeld=>?_);clear hK K;(try simp only [Act.put,List.setIfInBounds_toArray,List.set]))
  (refine hyes 10 ?_);(try simp only [Act.put,List.setIfInBounds_toArray,List.set])
  refine wpAnyH_done (by kernel_rfl) ?_ _
  have HT:=Lib.hid HT2
  have HO5:=Lib.hid (show wc.ownsRow (w.heap.size+1) 9 1 (.slice a5 (2+lo.length) c5) (rt :: wd :: lo).length (strs (rt :: wd :: lo)) by
   rw [show (rt :: wd :: lo).length=2+lo.length by simp only [List.length_cons];omega];exact HO5.out)
  clear HT2 WD
  obtain ⟨ca,fa,za⟩:=HT.out.a
  go_wp2_with fail
  go_loopw [3,23] (fun vo i wr => ∃ (j:Nat) (zs:List ByteArray),j≤hi.length∧i=.int .i64 j∧Hid (zs=rt :: wd :: (lo++moreM lo (hi.take j)))∧Hid (OneAt w #[.string r1,.string r2,.slice la lo.length lc,.slice ha hi.length hc,.bool op,.int .i64 k] wr)∧Hid (wr.ownsRow (w.heap.size+1) 9 1 vo zs.length (strs zs))) (fun _ i _=>hi.length - (intOf i).toNat)
  case atStart=>exact ⟨0,rt :: wd :: lo,by omega,rfl,Lib.hid (by simp [moreM]),HT,HO5⟩
  case round =>
   clear HT HO5 ca fa za
   obtain ⟨j,zs,hj,rfl,HZ,HT,HO⟩:=hrel
   obtain ⟨oo,oc,rfl⟩:=own_form HO.out
   have hzl:zs.length≤30000:=by
    rw [HZ.out]
    have h1:=more_len lo (hi.take j)
    have h2:=List.length_take_le j hi
    simp only [List.length_cons,List.length_append]
    omega
   by_cases hlt:j < hi.length
   ·obtain ⟨b3,o3,c3,he3,hc3,hm3,hb3,hx3⟩:=(HHi.out.below HT.out.low).pos (by omega)
    simp only [Value.slice.injEq,true_and] at he3
    obtain ⟨rfl,rfl⟩:=he3
    have p3:=hx3 j _ (strs_get hlt)
    have HM:=Lib.hid (more_snoc (lo:=lo) hlt)
    clear hx3
    have hym:hi[j].size≤40:=HF.out.hi _ (List.getElem_mem hlt)
    generalize hi[j]=y at *
    have HA:=Lib.hid (str_Contains (.slice la lo.length lc) lo y wr (HLo.out.below HT.out.low))
    obtain ⟨ca,fa,za⟩:=HT.out.a
    go_wp2_with fail
    refine HA.out.mono ?_
    rintro e w5 ⟨rfl,rfl⟩
    clear HA ca fa za p3 hb3
    cases hh:hasB lo y with
    | true =>
     have HM:=Lib.hid (show moreM lo (hi.take (j+1))=moreM lo (hi.take j) by rw [HM.out,if_pos hh,List.append_nil])
     clear hh
     go_wp2_with fail
     exact ⟨⟨j+1,zs,by omega,by go_num,Lib.hid (by rw [HM.out,HZ.out]),HT,HO⟩,by simp [intOf];omega⟩
    | false =>
     have HM:=Lib.hid (show moreM lo (hi.take (j+1))=moreM lo (hi.take j)++[y++⟨#[63]⟩] by rw [HM.out,if_neg (by rw [hh];decide)])
     clear hh
     have hown:=HO.out
     have hsz:w.heap.size+1≤w5.heap.size:=HT.out.a.2.2
     have hyl:y.size+1≤9223372036854775807:=by omega
     go_wp2_with (at_builtin;refine halt_ ?_)
     unfold Halt_
     refine app_own Tryz.underlying38 str_info rfl (by decide) (by decide) rfl _ _ rfl (w.heap.size+1) rfl (hown.alloc _) [.string (y++⟨#[63]⟩)] rfl (heap_new1 _ _) rfl (str1 _) ?_ ?_ ?_
     ·omega
     ·simp;omega
     intro a' cap' w6 hown' hgrow
     have HT6:=Lib.hid (show OneAt w _ w6 from ⟨(HT.out.a.alloc _).grown hgrow (fun e=>by have:=(hown.lt _ e.symm).1;omega),below_own (HT.out.low.alloc HT.out.low.size _) (hown.alloc _) hgrow (by simp;omega) (by omega)⟩)
     have HO6:=Lib.hid (show w6.ownsRow (w.heap.size+1) 9 1 (.slice a' (zs.length+1) cap') (zs++[y++⟨#[63]⟩]).length (strs (zs++[y++⟨#[63]⟩])) by rw [List.length_append,strs_snoc];exact hown')
     clear hown hown' hgrow hsz
     go_wp2_with fail
     exact ⟨⟨j+1,zs++[y++⟨#[63]⟩],by omega,by go_num,Lib.hid (by rw [HM.out,HZ.out];simp),HT6,HO6⟩,by simp [intOf];omega⟩
   ·have HZE:=Lib.hid (show zs=rt :: wd :: (lo++moreM lo hi) by rw [HZ.out,List.take_of_length_le (show hi.length≤j by omega)])
    have HJ:=Lib.hid (str_JoinB (.slice oo zs.length oc) zs ⟨#[32]⟩ wr (Sl.of_own HO.out).a (by omega) (by
     rw [HZE.out]
     refine Nat.le_trans (joinB_size_cons (M:=41) (fun x hx=>?_)) ?_
     ·rcases List.mem_cons.1 hx with rfl | hx
      ·omega
      rcases List.mem_append.1 hx with hx | hx
      ·have:=HF.out.lo x hx;omega
      ·have:=more_le (lo:=lo) HF.out.hi x hx;omega
     ·have h1:=more_len lo hi
      have h2:(wd :: (lo++moreM lo hi)).length≤121:=by simp only [List.length_cons,List.length_append];omega
      have h3:(wd :: (lo++moreM lo hi)).length * (41+(⟨#[32]⟩:ByteArray).size)≤121 * 42:=Nat.mul_le_mul_right _ h2
      omega))
    go_wp2_with fail
    refine HJ.out.mono ?_
    rintro e w7 ⟨rfl,hb7⟩
    have HB7:=Lib.hid (HT.out.low.trans (hb7.mono HT.out.low.size))
    clear hb7
    go_wp2
    go_ret
    exact ⟨by rw [RES.out,← HZE.out];rfl,HB7.out⟩
 ·have RES:=Lib.hid (show lineM ⟨⟨r1,r2⟩,lo,hi,op,k⟩=emp from if_neg hk)
  have hwd:=word_no hk
  rw [hwd] at WD
  clear hwd hk
  go_enter Tryz.func19,Tryz.ntmps19
  go_wp2_with fail
  refine (WD.out _).mono ?_
  rintro e w1 ⟨rfl,hw1⟩
  subst hw1
  go_wp2
  go_ret
  exact ⟨by rw [RES.out];rfl,HT.out.low⟩
end
section
open Go.RowKit Go.Shelf

theorem tail_snoc (sep:List UInt8) (xs:List (List UInt8)) (x:List UInt8):Lib.joinTail sep (xs++[x])=Lib.joinTail sep xs++(sep++x):=by
 unfold Lib.joinTail
 rw [List.map_append,List.flatten_append]
 simp
theorem tail_cons (sep:List UInt8) (xs:List (List UInt8)) (x:List UInt8):Lib.joinTail sep (x :: xs)=sep++x++Lib.joinTail sep xs:=by
 unfold Lib.joinTail
 rw [List.map_cons,List.flatten_cons]
theorem tail_app (sep:List UInt8) (xs ys:List (List UInt8)):Lib.joinTail sep (xs++ys)=Lib.joinTail sep xs++Lib.joinTail sep ys:=by
 unfold Lib.joinTail
 rw [List.map_append,List.flatten_append]
theorem line_bl {x:MR} (h:1≤x.k∧x.k≤4):bl (lineM x)=bl (roleT x.r++⟨#[32]⟩++wordM x.k)++Lib.joinTail [32] (x.lo.map bl)++Lib.joinTail [32] ((moreM x.lo x.hi).map bl):=by
 unfold lineM
 rw [if_pos h,joinB_cons,List.map_cons,tail_cons,List.map_append,tail_app,bl_append,bl_append]
 have e:bl (⟨#[32]⟩:ByteArray)=[32]:=rfl
 rw [e]
 simp only [List.append_assoc]
set_option maxRecDepth 100000 in
set_option maxHeartbeats 8000000 in
theorem ref41_Line1 (r1 r2:ByteArray) (lo hi:List ByteArray) (op:Bool) (lv hv:Value) (w:World) (hx:(⟨⟨⟨r1,r2⟩,lo,hi,op,1⟩,lv,hv⟩:MV).ok w) (hf:(⟨⟨⟨r1,r2⟩,lo,hi,op,1⟩,lv,hv⟩:MV).fits) :
  Calls Tryz.prog 20 #[mv ⟨⟨⟨r1,r2⟩,lo,hi,op,1⟩,lv,hv⟩] w fun e w'=>e=.returned (.string (lineM ⟨⟨r1,r2⟩,lo,hi,op,1⟩))∧Below w.heap.size w w':=by
 have HLo:=Lib.hid hx.1
 have HHi:=Lib.hid hx.2
 have HF:=Lib.hid hf
 have hll:=hf.ll
 have hhl:=hf.hl
 dsimp only at HLo HHi hll hhl
 obtain ⟨la,lc,rfl⟩:=HLo.out.form
 obtain ⟨ha,hc,rfl⟩:=HHi.out.form
 have HT:=Lib.hid (show OneAt w #[.string r1,.string r2,.slice la lo.length lc,.slice ha hi.length hc,.bool op,.int .i64 1] (w.alloc (.cells #[.string r1,.string r2,.slice la lo.length lc,.slice ha hi.length hc,.bool op,.int .i64 1] 44)) from ⟨Blk.new w _ _,(Below.refl _ _).alloc (Nat.le_refl _) _⟩)
 have RES:=Lib.hid (line_bl (x:=⟨⟨r1,r2⟩,lo,hi,op,1⟩) (by show (1:Int)≤1∧(1:Int)≤4;decide))
 have PR:=Lib.hid (fun W=>ref3_RoleL ⟨r1,r2⟩ W (HF.out.r.mono (by decide)))
 have hrl:=roleT_len HF.out.r
 dsimp only at hrl RES
 rw [show wordM 1=⟨#[99,108,111,115,101,100]⟩ from rfl] at RES
 generalize lineM ⟨⟨r1,r2⟩,lo,hi,op,1⟩=ln at *
 generalize roleT ⟨r1,r2⟩=rt at *
 clear hx hf
 go_enter Tryz.func20,Tryz.ntmps20
 go_wp2_with fail
 refine (PR.out _).mono ?_
 rintro e w1 ⟨rfl,hb1⟩
 have HT:=Lib.hid (HT.out.later hb1)
 clear hb1 PR
 obtain ⟨ca,fa,za⟩:=HT.out.a
 have hbs:(rt++⟨#[32]⟩++⟨#[99,108,111,115,101,100]⟩).size=rt.size+1+6:=by rw [ByteArray.size_append,ByteArray.size_append];rfl
 go_wp2_with fail
 obtain ⟨bs,hbs2⟩:∃ b:ByteArray,b=rt++⟨#[32]⟩++⟨#[99,108,111,115,101,100]⟩:=⟨_,rfl⟩
 rw [← hbs2] at hbs RES ⊢
 clear hbs2
 go_loopw [3,27] (fun o i wr => ∃ (j:Nat) (s:ByteArray),j≤lo.length∧i=.int .i64 j∧o=.string s∧wr=w1∧Hid (bl s=bl bs++Lib.joinTail [32] ((lo.take j).map bl))∧s.size≤281474976702480+j * 41) (fun _ i _=>lo.length - (intOf i).toNat)
 case atStart=>exact ⟨0,bs,by omega,rfl,rfl,rfl,Lib.hid (by simp [Lib.joinTail]),by omega⟩
 case round =>
  obtain ⟨j,s,hj,rfl,rfl,rfl,HS,hsl⟩:=hrel
  by_cases hlt:j < lo.length
  ·obtain ⟨b3,o3,c3,he3,hc3,hm3,hb3,hx3⟩:=(HLo.out.below HT.out.low).pos (by omega)
   simp only [Value.slice.injEq,true_and] at he3
   obtain ⟨rfl,rfl⟩:=he3
   have p3:=hx3 j _ (strs_get hlt)
   have hym:lo[j].size≤40:=HF.out.lo _ (List.getElem_mem hlt)
   have HN:=Lib.hid (show (lo.take (j+1)).map bl=(lo.take j).map bl++[bl lo[j]] by rw [List.take_succ_eq_append_getElem hlt,List.map_append];rfl)
   clear hx3
   generalize lo[j]=y at *
   have h1:(⟨#[32]⟩++y:ByteArray).size=1+y.size:=by rw [ByteArray.size_append];rfl
   have h2:(s++(⟨#[32]⟩++y):ByteArray).size=s.size+(1+y.size):=by rw [ByteArray.size_append,h1]
   have HS2:=Lib.hid (show bl (s++(⟨#[32]⟩++y))=bl bs++Lib.joinTail [32] ((lo.take (j+1)).map bl) by
    rw [HN.out,tail_snoc,bl_append,HS.out,bl_append,List.append_assoc])
   have h3:(s++(⟨#[32]⟩++y):ByteArray).size≤281474976702480+(j+1) * 41:=by rw [h2];omega
   have H3:=Lib.hid h3
   clear h3
   go_wp2_with fail
   exact ⟨⟨j+1,s++(⟨#[32]⟩++y),by omega,by go_num,rfl,trivial,HS2,H3.out⟩,by simp [intOf];omega⟩
  ·have HS:=Lib.hid (show bl s=bl bs++Lib.joinTail [32] (lo.map bl) by rw [HS.out,List.take_of_length_le (show lo.length≤j by omega)])
   have hsl2:s.size≤281474976705000:=by omega
   go_wp2_with fail
   clear hsl hj hlt
   obtain ⟨s0,hs0⟩:∃ x:ByteArray,x=s:=⟨_,rfl⟩
   rw [← hs0] at HS hsl2
   go_loopw [3,39] (fun o i wr' => ∃ (j:Nat) (s:ByteArray),j≤hi.length∧i=.int .i64 j∧o=.string s∧wr'=wr∧Hid (bl s=bl s0++Lib.joinTail [32] ((moreM lo (hi.take j)).map bl))∧s.size≤281474976705000+j * 42) (fun _ i _=>hi.length - (intOf i).toNat)
   case atStart=>exact ⟨0,s0,by omega,rfl,by rw [hs0],rfl,Lib.hid (by simp [Lib.joinTail,moreM]),by omega⟩
   case round =>
    clear hs0
    obtain ⟨j,s,hj,rfl,rfl,rfl,HS3,hsl⟩:=hrel
    by_cases hlt:j < hi.length
    ·obtain ⟨b3,o3,c3,he3,hc3,hm3,hb3,hx3⟩:=(HHi.out.below HT.out.low).pos (by omega)
     simp only [Value.slice.injEq,true_and] at he3
     obtain ⟨rfl,rfl⟩:=he3
     have p3:=hx3 j _ (strs_get hlt)
     have hym:hi[j].size≤40:=HF.out.hi _ (List.getElem_mem hlt)
     have HM:=Lib.hid (more_snoc (lo:=lo) hlt)
     clear hx3
     generalize hi[j]=y at *
     have HA:=Lib.hid (ref1_HasB _ lo y _ (HLo.out.below HT.out.low))
     go_wp2_with fail
     refine HA.out.mono ?_
     rintro e w5 ⟨rfl,hw5⟩
     subst hw5
     clear HA p3 hb3
     cases hh:hasB lo y with
     | true =>
      have HM:=Lib.hid (show moreM lo (hi.take (j+1))=moreM lo (hi.take j) by rw [HM.out,if_pos hh,List.append_nil])
      have H3:=Lib.hid (Nat.le_trans hsl (Nat.add_le_add_left (Nat.mul_le_mul_right 42 (Nat.le_add_right j 1)) 281474976705000))
      have HS4:=Lib.hid (show bl s=bl s0++Lib.joinTail [32] ((moreM lo (hi.take (j+1))).map bl) by rw [HM.out,HS3.out])
      clear hh
      go_wp2_with fail
      exact ⟨⟨j+1,s,by omega,by go_num,rfl,trivial,HS4,H3.out⟩,by simp [intOf];omega⟩
     | false =>
      have HM:=Lib.hid (show (moreM lo (hi.take (j+1))).map bl=(moreM lo (hi.take j)).map bl++[bl (y++⟨#[63]⟩)] by rw [HM.out,if_neg (by rw [hh];decide),List.map_append];rfl)
      clear hh
      have h1:(⟨#[32]⟩++y++⟨#[63]⟩:ByteArray).size=1+y.size+1:=by rw [ByteArray.size_append,ByteArray.size_append];rfl
      have h2:(s++(⟨#[32]⟩++y++⟨#[63]⟩):ByteArray).size=s.size+(1+y.size+1):=by rw [ByteArray.size_append,h1]
      have h0:(⟨#[32]⟩++y:ByteArray).size=1+y.size:=by rw [ByteArray.size_append];rfl
      have HS4:=Lib.hid (show bl (s++(⟨#[32]⟩++y++⟨#[63]⟩))=bl s0++Lib.joinTail [32] ((moreM lo (hi.take (j+1))).map bl) by
       rw [HM.out,tail_snoc,bl_append,HS3.out,bl_append,bl_append,bl_append]
       have e:bl (⟨#[32]⟩:ByteArray)=[32]:=rfl
       rw [e]
       simp only [List.append_assoc])
      have h3:(s++(⟨#[32]⟩++y++⟨#[63]⟩):ByteArray).size≤281474976705000+(j+1) * 42:=by rw [h2];omega
      have H3:=Lib.hid h3
      clear h3
      go_wp2_with fail
      exact ⟨⟨j+1,s++(⟨#[32]⟩++y++⟨#[63]⟩),by omega,by go_num,rfl,trivial,HS4,H3.out⟩,by simp [intOf];omega⟩
    ·have HE:=Lib.hid (show s=ln from bl_inj.1 (by rw [RES.out,HS3.out,HS.out,List.take_of_length_le (show hi.length≤j by omega)]))
     go_wp2_with fail
     go_ret
     exact ⟨by rw [HE.out];rfl,HT.out.low⟩
set_option maxRecDepth 100000 in
set_option maxHeartbeats 8000000 in
theorem ref41_Line2 (r1 r2:ByteArray) (lo hi:List ByteArray) (op:Bool) (lv hv:Value) (w:World) (hx:(⟨⟨⟨r1,r2⟩,lo,hi,op,2⟩,lv,hv⟩:MV).ok w) (hf:(⟨⟨⟨r1,r2⟩,lo,hi,op,2⟩,lv,hv⟩:MV).fits) :
  Calls Tryz.prog 20 #[mv ⟨⟨⟨r1,r2⟩,lo,hi,op,2⟩,lv,hv⟩] w fun e w'=>e=.returned (.string (lineM ⟨⟨r1,r2⟩,lo,hi,op,2⟩))∧Below w.heap.size w w':=by
 have HLo:=Lib.hid hx.1
 have HHi:=Lib.hid hx.2
 have HF:=Lib.hid hf
 have hll:=hf.ll
 have hhl:=hf.hl
 dsimp only at HLo HHi hll hhl
 obtain ⟨la,lc,rfl⟩:=HLo.out.form
 obtain ⟨ha,hc,rfl⟩:=HHi.out.form
 have HT:=Lib.hid (show OneAt w #[.string r1,.string r2,.slice la lo.length lc,.slice ha hi.length hc,.bool op,.int .i64 2] (w.alloc (.cells #[.string r1,.string r2,.slice la lo.length lc,.slice ha hi.length hc,.bool op,.int .i64 2] 44)) from ⟨Blk.new w _ _,(Below.refl _ _).alloc (Nat.le_refl _) _⟩)
 have RES:=Lib.hid (line_bl (x:=⟨⟨r1,r2⟩,lo,hi,op,2⟩) (by show (1:Int)≤2∧(2:Int)≤4;decide))
 have PR:=Lib.hid (fun W=>ref3_RoleL ⟨r1,r2⟩ W (HF.out.r.mono (by decide)))
 have hrl:=roleT_len HF.out.r
 dsimp only at hrl RES
 rw [show wordM 2=⟨#[98,111,117,110,100]⟩ from rfl] at RES
 generalize lineM ⟨⟨r1,r2⟩,lo,hi,op,2⟩=ln at *
 generalize roleT ⟨r1,r2⟩=rt at *
 clear hx hf
 go_enter Tryz.func20,Tryz.ntmps20
 go_wp2_with fail
 refine (PR.out _).mono ?_
 rintro e w1 ⟨rfl,hb1⟩
 have HT:=Lib.hid (HT.out.later hb1)
 clear hb1 PR
 obtain ⟨ca,fa,za⟩:=HT.out.a
 have hbs:(rt++⟨#[32]⟩++⟨#[98,111,117,110,100]⟩).size=rt.size+1+5:=by rw [ByteArray.size_append,ByteArray.size_append];rfl
 go_wp2_with fail
 obtain ⟨bs,hbs2⟩:∃ b:ByteArray,b=rt++⟨#[32]⟩++⟨#[98,111,117,110,100]⟩:=⟨_,rfl⟩
 rw [← hbs2] at hbs RES ⊢
 clear hbs2
 go_loopw [3,27] (fun o i wr => ∃ (j:Nat) (s:ByteArray),j≤lo.length∧i=.int .i64 j∧o=.string s∧wr=w1∧Hid (bl s=bl bs++Lib.joinTail [32] ((lo.take j).map bl))∧s.size≤281474976702480+j * 41) (fun _ i _=>lo.length - (intOf i).toNat)
 case atStart=>exact ⟨0,bs,by omega,rfl,rfl,rfl,Lib.hid (by simp [Lib.joinTail]),by omega⟩
 case round =>
  obtain ⟨j,s,hj,rfl,rfl,rfl,HS,hsl⟩:=hrel
  by_cases hlt:j < lo.length
  ·obtain ⟨b3,o3,c3,he3,hc3,hm3,hb3,hx3⟩:=(HLo.out.below HT.out.low).pos (by omega)
   simp only [Value.slice.injEq,true_and] at he3
   obtain ⟨rfl,rfl⟩:=he3
   have p3:=hx3 j _ (strs_get hlt)
   have hym:lo[j].size≤40:=HF.out.lo _ (List.getElem_mem hlt)
   have HN:=Lib.hid (show (lo.take (j+1)).map bl=(lo.take j).map bl++[bl lo[j]] by rw [List.take_succ_eq_append_getElem hlt,List.map_append];rfl)
   clear hx3
   generalize lo[j]=y at *
   have h1:(⟨#[32]⟩++y:ByteArray).size=1+y.size:=by rw [ByteArray.size_append];rfl
   have h2:(s++(⟨#[32]⟩++y):ByteArray).size=s.size+(1+y.size):=by rw [ByteArray.size_append,h1]
   have HS2:=Lib.hid (show bl (s++(⟨#[32]⟩++y))=bl bs++Lib.joinTail [32] ((lo.take (j+1)).map bl) by
    rw [HN.out,tail_snoc,bl_append,HS.out,bl_append,List.append_assoc])
   have h3:(s++(⟨#[32]⟩++y):ByteArray).size≤281474976702480+(j+1) * 41:=by rw [h2];omega
   have H3:=Lib.hid h3
   clear h3
   go_wp2_with fail
   exact ⟨⟨j+1,s++(⟨#[32]⟩++y),by omega,by go_num,rfl,trivial,HS2,H3.out⟩,by simp [intOf];omega⟩
  ·have HS:=Lib.hid (show bl s=bl bs++Lib.joinTail [32] (lo.map bl) by rw [HS.out,List.take_of_length_le (show lo.length≤j by omega)])
   have hsl2:s.size≤281474976705000:=by omega
   go_wp2_with fail
   clear hsl hj hlt
   obtain ⟨s0,hs0⟩:∃ x:ByteArray,x=s:=⟨_,rfl⟩
   rw [← hs0] at HS hsl2
   go_loopw [3,39] (fun o i wr' => ∃ (j:Nat) (s:ByteArray),j≤hi.length∧i=.int .i64 j∧o=.string s∧wr'=wr∧Hid (bl s=bl s0++Lib.joinTail [32] ((moreM lo (hi.take j)).map bl))∧s.size≤281474976705000+j * 42) (fun _ i _=>hi.length - (intOf i).toNat)
   case atStart=>exact ⟨0,s0,by omega,rfl,by rw [hs0],rfl,Lib.hid (by simp [Lib.joinTail,moreM]),by omega⟩
   case round =>
    clear hs0
    obtain ⟨j,s,hj,rfl,rfl,rfl,HS3,hsl⟩:=hrel
    by_cases hlt:j < hi.length
    ·obtain ⟨b3,o3,c3,he3,hc3,hm3,hb3,hx3⟩:=(HHi.out.below HT.out.low).pos (by omega)
     simp only [Value.slice.injEq,true_and] at he3
     obtain ⟨rfl,rfl⟩:=he3
     have p3:=hx3 j _ (strs_get hlt)
     have hym:hi[j].size≤40:=HF.out.hi _ (List.getElem_mem hlt)
     have HM:=Lib.hid (more_snoc (lo:=lo) hlt)
     clear hx3
     generalize hi[j]=y at *
     have HA:=Lib.hid (ref1_HasB _ lo y _ (HLo.out.below HT.out.low))
     go_wp2_with fail
     refine HA.out.mono ?_
     rintro e w5 ⟨rfl,hw5⟩
     subst hw5
     clear HA p3 hb3
     cases hh:hasB lo y with
     | true =>
      have HM:=Lib.hid (show moreM lo (hi.take (j+1))=moreM lo (hi.take j) by rw [HM.out,if_pos hh,List.append_nil])
      have H3:=Lib.hid (Nat.le_trans hsl (Nat.add_le_add_left (Nat.mul_le_mul_right 42 (Nat.le_add_right j 1)) 281474976705000))
      have HS4:=Lib.hid (show bl s=bl s0++Lib.joinTail [32] ((moreM lo (hi.take (j+1))).map bl) by rw [HM.out,HS3.out])
      clear hh
      go_wp2_with fail
      exact ⟨⟨j+1,s,by omega,by go_num,rfl,trivial,HS4,H3.out⟩,by simp [intOf];omega⟩
     | false =>
      have HM:=Lib.hid (show (moreM lo (hi.take (j+1))).map bl=(moreM lo (hi.take j)).map bl++[bl (y++⟨#[63]⟩)] by rw [HM.out,if_neg (by rw [hh];decide),List.map_append];rfl)
      clear hh
      have h1:(⟨#[32]⟩++y++⟨#[63]⟩:ByteArray).size=1+y.size+1:=by rw [ByteArray.size_append,ByteArray.size_append];rfl
      have h2:(s++(⟨#[32]⟩++y++⟨#[63]⟩):ByteArray).size=s.size+(1+y.size+1):=by rw [ByteArray.size_append,h1]
      have h0:(⟨#[32]⟩++y:ByteArray).size=1+y.size:=by rw [ByteArray.size_append];rfl
      have HS4:=Lib.hid (show bl (s++(⟨#[32]⟩++y++⟨#[63]⟩))=bl s0++Lib.joinTail [32] ((moreM lo (hi.take (j+1))).map bl) by
       rw [HM.out,tail_snoc,bl_append,HS3.out,bl_append,bl_append,bl_append]
       have e:bl (⟨#[32]⟩:ByteArray)=[32]:=rfl
       rw [e]
       simp only [List.append_assoc])
      have h3:(s++(⟨#[32]⟩++y++⟨#[63]⟩):ByteArray).size≤281474976705000+(j+1) * 42:=by rw [h2];omega
      have H3:=Lib.hid h3
      clear h3
      go_wp2_with fail
      exact ⟨⟨j+1,s++(⟨#[32]⟩++y++⟨#[63]⟩),by omega,by go_num,rfl,trivial,HS4,H3.out⟩,by simp [intOf];omega⟩
    ·have HE:=Lib.hid (show s=ln from bl_inj.1 (by rw [RES.out,HS3.out,HS.out,List.take_of_length_le (show hi.length≤j by omega)]))
     go_wp2_with fail
     go_ret
     exact ⟨by rw [HE.out];rfl,HT.out.low⟩
set_option maxRecDepth 100000 in
set_option maxHeartbeats 8000000 in
theorem ref41_Line3 (r1 r2:ByteArray) (lo hi:List ByteArray) (op:Bool) (lv hv:Value) (w:World) (hx:(⟨⟨⟨r1,r2⟩,lo,hi,op,3⟩,lv,hv⟩:MV).ok w) (hf:(⟨⟨⟨r1,r2⟩,lo,hi,op,3⟩,lv,hv⟩:MV).fits) :
  Calls Tryz.prog 20 #[mv ⟨⟨⟨r1,r2⟩,lo,hi,op,3⟩,lv,hv⟩] w fun e w'=>e=.returned (.string (lineM ⟨⟨r1,r2⟩,lo,hi,op,3⟩))∧Below w.heap.size w w':=by
 have HLo:=Lib.hid hx.1
 have HHi:=Lib.hid hx.2
 have HF:=Lib.hid hf
 have hll:=hf.ll
 have hhl:=hf.hl
 dsimp only at HLo HHi hll hhl
 obtain ⟨la,lc,rfl⟩:=HLo.out.form
 obtain ⟨ha,hc,rfl⟩:=HHi.out.form
 have HT:=Lib.hid (show OneAt w #[.string r1,.string r2,.slice la lo.length lc,.slice ha hi.length hc,.bool op,.int .i64 3] (w.alloc (.cells #[.string r1,.string r2,.slice la lo.length lc,.slice ha hi.length hc,.bool op,.int .i64 3] 44)) from ⟨Blk.new w _ _,(Below.refl _ _).alloc (Nat.le_refl _) _⟩)
 have RES:=Lib.hid (line_bl (x:=⟨⟨r1,r2⟩,lo,hi,op,3⟩) (by show (1:Int)≤3∧(3:Int)≤4;decide))
 have PR:=Lib.hid (fun W=>ref3_RoleL ⟨r1,r2⟩ W (HF.out.r.mono (by decide)))
 have hrl:=roleT_len HF.out.r
 dsimp only at hrl RES
 rw [show wordM 3=⟨#[102,114,101,101]⟩ from rfl] at RES
 generalize lineM ⟨⟨r1,r2⟩,lo,hi,op,3⟩=ln at *
 generalize roleT ⟨r1,r2⟩=rt at *
 clear hx hf
 go_enter Tryz.func20,Tryz.ntmps20
 go_wp2_with fail
 refine (PR.out _).mono ?_
 rintro e w1 ⟨rfl,hb1⟩
 have HT:=Lib.hid (HT.out.later hb1)
 clear hb1 PR
 obtain ⟨ca,fa,za⟩:=HT.out.a
 have hbs:(rt++⟨#[32]⟩++⟨#[102,114,101,101]⟩).size=rt.size+1+4:=by rw [ByteArray.size_append,ByteArray.size_append];rfl
 go_wp2_with fail
 obtain ⟨bs,hbs2⟩:∃ b:ByteArray,b=rt++⟨#[32]⟩++⟨#[102,114,101,101]⟩:=⟨_,rfl⟩
 rw [← hbs2] at hbs RES ⊢
 clear hbs2
 go_loopw [3,27] (fun o i wr => ∃ (j:Nat) (s:ByteArray),j≤lo.length∧i=.int .i64 j∧o=.string s∧wr=w1∧Hid (bl s=bl bs++Lib.joinTail [32] ((lo.take j).map bl))∧s.size≤281474976702480+j * 41) (fun _ i _=>lo.length - (intOf i).toNat)
 case atStart=>exact ⟨0,bs,by omega,rfl,rfl,rfl,Lib.hid (by simp [Lib.joinTail]),by omega⟩
 case round =>
  obtain ⟨j,s,hj,rfl,rfl,rfl,HS,hsl⟩:=hrel
  by_cases hlt:j < lo.length
  ·obtain ⟨b3,o3,c3,he3,hc3,hm3,hb3,hx3⟩:=(HLo.out.below HT.out.low).pos (by omega)
   simp only [Value.slice.injEq,true_and] at he3
   obtain ⟨rfl,rfl⟩:=he3
   have p3:=hx3 j _ (strs_get hlt)
   have hym:lo[j].size≤40:=HF.out.lo _ (List.getElem_mem hlt)
   have HN:=Lib.hid (show (lo.take (j+1)).map bl=(lo.take j).map bl++[bl lo[j]] by rw [List.take_succ_eq_append_getElem hlt,List.map_append];rfl)
   clear hx3
   generalize lo[j]=y at *
   have h1:(⟨#[32]⟩++y:ByteArray).size=1+y.size:=by rw [ByteArray.size_append];rfl
   have h2:(s++(⟨#[32]⟩++y):ByteArray).size=s.size+(1+y.size):=by rw [ByteArray.size_append,h1]
   have HS2:=Lib.hid (show bl (s++(⟨#[32]⟩++y))=bl bs++Lib.joinTail [32] ((lo.take (j+1)).map bl) by
    rw [HN.out,tail_snoc,bl_append,HS.out,bl_append,List.append_assoc])
   have h3:(s++(⟨#[32]⟩++y):ByteArray).size≤281474976702480+(j+1) * 41:=by rw [h2];omega
   have H3:=Lib.hid h3
   clear h3
   go_wp2_with fail
   exact ⟨⟨j+1,s++(⟨#[32]⟩++y),by omega,by go_num,rfl,trivial,HS2,H3.out⟩,by simp [intOf];omega⟩
  ·have HS:=Lib.hid (show bl s=bl bs++Lib.joinTail [32] (lo.map bl) by rw [HS.out,List.take_of_length_le (show lo.length≤j by omega)])
   have hsl2:s.size≤281474976705000:=by omega
   go_wp2_with fail
   clear hsl hj hlt
   obtain ⟨s0,hs0⟩:∃ x:ByteArray,x=s:=⟨_,rfl⟩
   rw [← hs0] at HS hsl2
   go_loopw [3,39] (fun o i wr' => ∃ (j:Nat) (s:ByteArray),j≤hi.length∧i=.int .i64 j∧o=.string s∧wr'=wr∧Hid (bl s=bl s0++Lib.joinTail [32] ((moreM lo (hi.take j)).map bl))∧s.size≤281474976705000+j * 42) (fun _ i _=>hi.length - (intOf i).toNat)
   case atStart=>exact ⟨0,s0,by omega,rfl,by rw [hs0],rfl,Lib.hid (by simp [Lib.joinTail,moreM]),by omega⟩
   case round =>
    clear hs0
    obtain ⟨j,s,hj,rfl,rfl,rfl,HS3,hsl⟩:=hrel
    by_cases hlt:j < hi.length
    ·obtain ⟨b3,o3,c3,he3,hc3,hm3,hb3,hx3⟩:=(HHi.out.below HT.out.low).pos (by omega)
     simp only [Value.slice.injEq,true_and] at he3
     obtain ⟨rfl,rfl⟩:=he3
     have p3:=hx3 j _ (strs_get hlt)
     have hym:hi[j].size≤40:=HF.out.hi _ (List.getElem_mem hlt)
     have HM:=Lib.hid (more_snoc (lo:=lo) hlt)
     clear hx3
     generalize hi[j]=y at *
     have HA:=Lib.hid (ref1_HasB _ lo y _ (HLo.out.below HT.out.low))
     go_wp2_with fail
     refine HA.out.mono ?_
     rintro e w5 ⟨rfl,hw5⟩
     subst hw5
     clear HA p3 hb3
     cases hh:hasB lo y with
     | true =>
      have HM:=Lib.hid (show moreM lo (hi.take (j+1))=moreM lo (hi.take j) by rw [HM.out,if_pos hh,List.append_nil])
      have H3:=Lib.hid (Nat.le_trans hsl (Nat.add_le_add_left (Nat.mul_le_mul_right 42 (Nat.le_add_right j 1)) 281474976705000))
      have HS4:=Lib.hid (show bl s=bl s0++Lib.joinTail [32] ((moreM lo (hi.take (j+1))).map bl) by rw [HM.out,HS3.out])
      clear hh
      go_wp2_with fail
      exact ⟨⟨j+1,s,by omega,by go_num,rfl,trivial,HS4,H3.out⟩,by simp [intOf];omega⟩
     | false =>
      have HM:=Lib.hid (show (moreM lo (hi.take (j+1))).map bl=(moreM lo (hi.take j)).map bl++[bl (y++⟨#[63]⟩)] by rw [HM.out,if_neg (by rw [hh];decide),List.map_append];rfl)
      clear hh
      have h1:(⟨#[32]⟩++y++⟨#[63]⟩:ByteArray).size=1+y.size+1:=by rw [ByteArray.size_append,ByteArray.size_append];rfl
      have h2:(s++(⟨#[32]⟩++y++⟨#[63]⟩):ByteArray).size=s.size+(1+y.size+1):=by rw [ByteArray.size_append,h1]
      have h0:(⟨#[32]⟩++y:ByteArray).size=1+y.size:=by rw [ByteArray.size_append];rfl
      have HS4:=Lib.hid (show bl (s++(⟨#[32]⟩++y++⟨#[63]⟩))=bl s0++Lib.joinTail [32] ((moreM lo (hi.take (j+1))).map bl) by
       rw [HM.out,tail_snoc,bl_append,HS3.out,bl_append,bl_append,bl_append]
       have e:bl (⟨#[32]⟩:ByteArray)=[32]:=rfl
       rw [e]
       simp only [List.append_assoc])
      have h3:(s++(⟨#[32]⟩++y++⟨#[63]⟩):ByteArray).size≤281474976705000+(j+1) * 42:=by rw [h2];omega
      have H3:=Lib.hid h3
      clear h3
      go_wp2_with fail
      exact ⟨⟨j+1,s++(⟨#[32]⟩++y++⟨#[63]⟩),by omega,by go_num,rfl,trivial,HS4,H3.out⟩,by simp [intOf];omega⟩
    ·have HE:=Lib.hid (show s=ln from bl_inj.1 (by rw [RES.out,HS3.out,HS.out,List.take_of_length_le (show hi.length≤j by omega)]))
     go_wp2_with fail
     go_ret
     exact ⟨by rw [HE.out];rfl,HT.out.low⟩
set_option maxRecDepth 100000 in
set_option maxHeartbeats 8000000 in
theorem ref41_Line4 (r1 r2:ByteArray) (lo hi:List ByteArray) (op:Bool) (lv hv:Value) (w:World) (hx:(⟨⟨⟨r1,r2⟩,lo,hi,op,4⟩,lv,hv⟩:MV).ok w) (hf:(⟨⟨⟨r1,r2⟩,lo,hi,op,4⟩,lv,hv⟩:MV).fits) :
  Calls Tryz.prog 20 #[mv ⟨⟨⟨r1,r2⟩,lo,hi,op,4⟩,lv,hv⟩] w fun e w'=>e=.returned (.string (lineM ⟨⟨r1,r2⟩,lo,hi,op,4⟩))∧Below w.heap.size w w':=by
 have HLo:=Lib.hid hx.1
 have HHi:=Lib.hid hx.2
 have HF:=Lib.hid hf
 have hll:=hf.ll
 have hhl:=hf.hl
 dsimp only at HLo HHi hll hhl
 obtain ⟨la,lc,rfl⟩:=HLo.out.form
 obtain ⟨ha,hc,rfl⟩:=HHi.out.form
 have HT:=Lib.hid (show OneAt w #[.string r1,.string r2,.slice la lo.length lc,.slice ha hi.length hc,.bool op,.int .i64 4] (w.alloc (.cells #[.string r1,.string r2,.slice la lo.length lc,.slice ha hi.length hc,.bool op,.int .i64 4] 44)) from ⟨Blk.new w _ _,(Below.refl _ _).alloc (Nat.le_refl _) _⟩)
 have RES:=Lib.hid (line_bl (x:=⟨⟨r1,r2⟩,lo,hi,op,4⟩) (by show (1:Int)≤4∧(4:Int)≤4;decide))
 have PR:=Lib.hid (fun W=>ref3_RoleL ⟨r1,r2⟩ W (HF.out.r.mono (by decide)))
 have hrl:=roleT_len HF.out.r
 dsimp only at hrl RES
 rw [show wordM 4=⟨#[118,111,105,100]⟩ from rfl] at RES
 generalize lineM ⟨⟨r1,r2⟩,lo,hi,op,4⟩=ln at *
 generalize roleT ⟨r1,r2⟩=rt at *
 clear hx hf
 go_enter Tryz.func20,Tryz.ntmps20
 go_wp2_with fail
 refine (PR.out _).mono ?_
 rintro e w1 ⟨rfl,hb1⟩
 have HT:=Lib.hid (HT.out.later hb1)
 clear hb1 PR
 obtain ⟨ca,fa,za⟩:=HT.out.a
 have hbs:(rt++⟨#[32]⟩++⟨#[118,111,105,100]⟩).size=rt.size+1+4:=by rw [ByteArray.size_append,ByteArray.size_append];rfl
 go_wp2_with fail
 obtain ⟨bs,hbs2⟩:∃ b:ByteArray,b=rt++⟨#[32]⟩++⟨#[118,111,105,100]⟩:=⟨_,rfl⟩
 rw [← hbs2] at hbs RES ⊢
 clear hbs2
 go_loopw [3,27] (fun o i wr => ∃ (j:Nat) (s:ByteArray),j≤lo.length∧i=.int .i64 j∧o=.string s∧wr=w1∧Hid (bl s=bl bs++Lib.joinTail [32] ((lo.take j).map bl))∧s.size≤281474976702480+j * 41) (fun _ i _=>lo.length - (intOf i).toNat)
 case atStart=>exact ⟨0,bs,by omega,rfl,rfl,rfl,Lib.hid (by simp [Lib.joinTail]),by omega⟩
 case round =>
  obtain ⟨j,s,hj,rfl,rfl,rfl,HS,hsl⟩:=hrel
  by_cases hlt:j < lo.length
  ·obtain ⟨b3,o3,c3,he3,hc3,hm3,hb3,hx3⟩:=(HLo.out.below HT.out.low).pos (by omega)
   simp only [Value.slice.injEq,true_and] at he3
   obtain ⟨rfl,rfl⟩:=he3
   have p3:=hx3 j _ (strs_get hlt)
   have hym:lo[j].size≤40:=HF.out.lo _ (List.getElem_mem hlt)
   have HN:=Lib.hid (show (lo.take (j+1)).map bl=(lo.take j).map bl++[bl lo[j]] by rw [List.take_succ_eq_append_getElem hlt,List.map_append];rfl)
   clear hx3
   generalize lo[j]=y at *
   have h1:(⟨#[32]⟩++y:ByteArray).size=1+y.size:=by rw [ByteArray.size_append];rfl
   have h2:(s++(⟨#[32]⟩++y):ByteArray).size=s.size+(1+y.size):=by rw [ByteArray.size_append,h1]
   have HS2:=Lib.hid (show bl (s++(⟨#[32]⟩++y))=bl bs++Lib.joinTail [32] ((lo.take (j+1)).map bl) by
    rw [HN.out,tail_snoc,bl_append,HS.out,bl_append,List.append_assoc])
   have h3:(s++(⟨#[32]⟩++y):ByteArray).size≤281474976702480+(j+1) * 41:=by rw [h2];omega
   have H3:=Lib.hid h3
   clear h3
   go_wp2_with fail
   exact ⟨⟨j+1,s++(⟨#[32]⟩++y),by omega,by go_num,rfl,trivial,HS2,H3.out⟩,by simp [intOf];omega⟩
  ·have HS:=Lib.hid (show bl s=bl bs++Lib.joinTail [32] (lo.map bl) by rw [HS.out,List.take_of_length_le (show lo.length≤j by omega)])
   have hsl2:s.size≤281474976705000:=by omega
   go_wp2_with fail
   clear hsl hj hlt
   obtain ⟨s0,hs0⟩:∃ x:ByteArray,x=s:=⟨_,rfl⟩
   rw [← hs0] at HS hsl2
   go_loopw [3,39] (fun o i wr' => ∃ (j:Nat) (s:ByteArray),j≤hi.length∧i=.int .i64 j∧o=.string s∧wr'=wr∧Hid (bl s=bl s0++Lib.joinTail [32] ((moreM lo (hi.take j)).map bl))∧s.size≤281474976705000+j * 42) (fun _ i _=>hi.length - (intOf i).toNat)
   case atStart=>exact ⟨0,s0,by omega,rfl,by rw [hs0],rfl,Lib.hid (by simp [Lib.joinTail,moreM]),by omega⟩
   case round =>
    clear hs0
    obtain ⟨j,s,hj,rfl,rfl,rfl,HS3,hsl⟩:=hrel
    by_cases hlt:j < hi.length
    ·obtain ⟨b3,o3,c3,he3,hc3,hm3,hb3,hx3⟩:=(HHi.out.below HT.out.low).pos (by omega)
     simp only [Value.slice.injEq,true_and] at he3
     obtain ⟨rfl,rfl⟩:=he3
     have p3:=hx3 j _ (strs_get hlt)
     have hym:hi[j].size≤40:=HF.out.hi _ (List.getElem_mem hlt)
     have HM:=Lib.hid (more_snoc (lo:=lo) hlt)
     clear hx3
     generalize hi[j]=y at *
     have HA:=Lib.hid (ref1_HasB _ lo y _ (HLo.out.below HT.out.low))
     go_wp2_with fail
     refine HA.out.mono ?_
     rintro e w5 ⟨rfl,hw5⟩
     subst hw5
     clear HA p3 hb3
     cases hh:hasB lo y with
     | true =>
      have HM:=Lib.hid (show moreM lo (hi.take (j+1))=moreM lo (hi.take j) by rw [HM.out,if_pos hh,List.append_nil])
      have H3:=Lib.hid (Nat.le_trans hsl (Nat.add_le_add_left (Nat.mul_le_mul_right 42 (Nat.le_add_right j 1)) 281474976705000))
      have HS4:=Lib.hid (show bl s=bl s0++Lib.joinTail [32] ((moreM lo (hi.take (j+1))).map bl) by rw [HM.out,HS3.out])
      clear hh
      go_wp2_with fail
      exact ⟨⟨j+1,s,by omega,by go_num,rfl,trivial,HS4,H3.out⟩,by simp [intOf];omega⟩
     | false =>
      have HM:=Lib.hid (show (moreM lo (hi.take (j+1))).map bl=(moreM lo (hi.take j)).map bl++[bl (y++⟨#[63]⟩)] by rw [HM.out,if_neg (by rw [hh];decide),List.map_append];rfl)
      clear hh
      have h1:(⟨#[32]⟩++y++⟨#[63]⟩:ByteArray).size=1+y.size+1:=by rw [ByteArray.size_append,ByteArray.size_append];rfl
      have h2:(s++(⟨#[32]⟩++y++⟨#[63]⟩):ByteArray).size=s.size+(1+y.size+1):=by rw [ByteArray.size_append,h1]
      have h0:(⟨#[32]⟩++y:ByteArray).size=1+y.size:=by rw [ByteArray.size_append];rfl
      have HS4:=Lib.hid (show bl (s++(⟨#[32]⟩++y++⟨#[63]⟩))=bl s0++Lib.joinTail [32] ((moreM lo (hi.take (j+1))).map bl) by
       rw [HM.out,tail_snoc,bl_append,HS3.out,bl_append,bl_append,bl_append]
       have e:bl (⟨#[32]⟩:ByteArray)=[32]:=rfl
       rw [e]
       simp only [List.append_assoc])
      have h3:(s++(⟨#[32]⟩++y++⟨#[63]⟩):ByteArray).size≤281474976705000+(j+1) * 42:=by rw [h2];omega
      have H3:=Lib.hid h3
      clear h3
      go_wp2_with fail
      exact ⟨⟨j+1,s++(⟨#[32]⟩++y++⟨#[63]⟩),by omega,by go_num,rfl,trivial,HS4,H3.out⟩,by simp [intOf];omega⟩
    ·have HE:=Lib.hid (show s=ln from bl_inj.1 (by rw [RES.out,HS3.out,HS.out,List.take_of_length_le (show hi.length≤j by omega)]))
     go_wp2_with fail
     go_ret
     exact ⟨by rw [HE.out];rfl,HT.out.low⟩
set_option maxRecDepth 100000 in
set_option maxHeartbeats 4000000 in
theorem ref41_Line (x:MV) (w:World) (hx:x.ok w) (hf:x.fits):Calls Tryz.prog 20 #[mv x] w fun e w'=>e=.returned (.string (lineM x.s))∧Below w.heap.size w w':=by
 obtain ⟨⟨⟨r1,r2⟩,lo,hi,op,k⟩,lv,hv⟩:=x
 by_cases h1:k=1
 ·subst h1;exact ref41_Line1 r1 r2 lo hi op lv hv w hx hf
 by_cases h2:k=2
 ·subst h2;exact ref41_Line2 r1 r2 lo hi op lv hv w hx hf
 by_cases h3:k=3
 ·subst h3;exact ref41_Line3 r1 r2 lo hi op lv hv w hx hf
 by_cases h4:k=4
 ·subst h4;exact ref41_Line4 r1 r2 lo hi op lv hv w hx hf
 have R:=Lib.hid (show lineM ⟨⟨r1,r2⟩,lo,hi,op,k⟩=emp from if_neg (by show ¬ (1≤k∧k≤4);omega))
 have d1:(k == 1)=false:=by simp [h1]
 have d2:(k == 2)=false:=by simp [h2]
 have d3:(k == 3)=false:=by simp [h3]
 have d4:(k == 4)=false:=by simp [h4]
 have HB:=Lib.hid (show Below w.heap.size w (w.alloc (.cells #[.string r1,.string r2,lv,hv,.bool op,.int .i64 k] 44)) from (Below.refl _ _).alloc (Nat.le_refl _) _)
 obtain ⟨la,lc,e1⟩:=hx.1.form
 obtain ⟨ha,hc,e2⟩:=hx.2.form
 dsimp only at e1 e2
 subst e1 e2
 clear h1 h2 h3 h4 hx hf
 go_enter Tryz.func20,Tryz.ntmps20
 go_wp2
 go_ret
 exact ⟨by rw [R.out];rfl,HB.out⟩
end
section
open Go.RowKit Go.Shelf

theorem arr5_same1 (d:Nat) (hi:∀ (x:Int) W,(Op.equalIn d 3 (.int .i64 x) (.int .i64 x)).run Tryz.prog W=.ok true W) (a b c e f:Int) (w:World):(Op.equalIn (d+1) 37 (.agg #[.int .i64 a,.int .i64 b,.int .i64 c,.int .i64 e,.int .i64 f]) (.agg #[.int .i64 a,.int .i64 b,.int .i64 c,.int .i64 e,.int .i64 f])).run Tryz.prog w=.ok true w:=by
 simp only [Op.equalIn,Sem.run_bind,run_underlying Tryz.underlying37,Result.andThen_ok,run_program]
 simp only [Std.Legacy.Range.forIn_eq_forIn_range',Std.Legacy.Range.size]
 go_simp
 rw [show List.range' 0 5=[0,1,2,3,4] from rfl]
 simp only [List.forIn_cons,List.forIn_nil,Sem.run_bind,Sem.run_ite]
 go_simp

theorem arr5_eql (a b c e f:Int) (w:World):(binOp .eql 37 (.agg #[.int .i64 a,.int .i64 b,.int .i64 c,.int .i64 e,.int .i64 f]) (.agg #[.int .i64 a,.int .i64 b,.int .i64 c,.int .i64 e,.int .i64 f])).run Tryz.prog w=.ok (.bool true) w:=by
 rw [run_eql_struct,show (10000:Nat)=9999+1 from rfl,arr5_same1 9999 (fun x W=>by rw [show (9999:Nat)=9998+1 from rfl,run_equalIn_int W 9998 3 .i64 .i64 x x Tryz.underlying3];simp)]
 rfl
end
section
open Go.RowKit Go.Shelf

def IdxG {α:Type} (l:List α) (p:α→Bool) (i:Int):Prop :=
 (i = -1∧∀ x∈l,p x=false)∨∃ k:Nat,∃ hk:k < l.length,i=k∧p l[k]=true∧∀ j (hj:j < l.length),j < k→p l[j]=false
def MV.form (x:MV):Prop:=(∃ a n c,x.lv=.slice a n c)∧∃ a n c,x.hv=.slice a n c
theorem RowsIn.form {w:World} {R:List MV} (h:RowsIn w R):∀ x∈R,x.form:=fun x hx=>by
 obtain ⟨a,c,e⟩:=own_form (h x hx).1
 obtain ⟨a',c',e'⟩:=own_form (h x hx).2
 exact ⟨⟨a,_,c,e⟩,⟨a',_,c',e'⟩⟩
set_option maxRecDepth 100000 in
set_option maxHeartbeats 2000000 in
theorem mv_IndexFunc (va:Value) (l:List MV) (w:World) (ha:SlA w 6 va l.length (l.flatMap MV.cells)) (g:Nat) (cb:Array Value) (p:MV→Bool) (hfm:∀ x∈l,x.form)
  (eg:∀ args w,(callFunc g args).run Tryz.prog w=.ok (.enter g args) w)
  (hp:∀ x W,x∈l→Below w.heap.size w W→Calls Tryz.prog g (#[mv x]++cb) W fun e w'=>e=.returned (.bool (p x))∧Below W.heap.size W w') :
  Calls Tryz.prog 85 #[va,.func (.func g) #[] cb] w fun e w'=>(∃ i:Int,e=.returned (.int .i64 i)∧IdxG l p i)∧Below w.heap.size w w':=by
 have HP:=Lib.hid hp
 have HA:=Lib.hid ha
 have hmax:=ha.max
 obtain ⟨ao,cap,hva⟩:=ha.form
 subst hva
 clear ha hp
 go_enter Tryz.func85,Tryz.ntmps85
 go_wp2
 go_loopw [8] (fun i wr => ∃ k:Nat,k≤l.length∧i=.int .i64 k∧Hid (Below w.heap.size w wr)∧Hid (∀ j (hj:j < l.length),j < k→p l[j]=false)) (fun i _=>l.length - (intOf i).toNat)
 case atStart=>exact ⟨0,by omega,rfl,Lib.hid (Below.refl _ _),Lib.hid (fun _ _ h=>absurd h (by omega))⟩
 case round =>
  obtain ⟨k,hk,rfl,HB,HJ⟩:=hrel
  by_cases hlt:k < l.length
  ·obtain ⟨b1,o1,c1,he1,hc1,hm1,hb1,hx1⟩:=HA.out.pos (by omega)
   simp only [Value.slice.injEq,true_and] at he1
   obtain ⟨rfl,rfl⟩:=he1
   obtain ⟨p0,p1,p2,p3,p4,p5⟩:=mv_cell (w:=wr) (fun j u hu=>(HB.out.cell (p:=⟨b1,o1+j,none⟩) hb1).trans (hx1 j u hu)) k hlt
   have hbr:b1 < wr.heap.size:=Nat.lt_of_lt_of_le hb1 HB.out.size
   have PC:=Lib.hid (fun W h=>HP.out l[k] W (List.getElem_mem hlt) h)
   have hfk:=hfm l[k] (List.getElem_mem hlt)
   have YES:Hid (p l[k]=true→IdxG l p k):=Lib.hid (fun h=>.inr ⟨k,hlt,rfl,h,HJ.out⟩)
   have HJ2:Hid (p l[k]=false→∀ j (hj:j < l.length),j < k+1→p l[j]=false):=Lib.hid (fun hpk j hj hjk=>by
    by_cases h:j < k
    ·exact HJ.out j hj h
    ·obtain rfl:j=k:=by omega
     exact hpk)
   clear hx1
   generalize p l[k]=px at PC YES HJ2
   generalize l[k]=x at *
   obtain ⟨⟨⟨x1,x2⟩,x3,x4,x5,x6⟩,x7,x8⟩:=x
   obtain ⟨⟨f1,f2,f3,e1⟩,⟨f4,f5,f6,e2⟩⟩:=hfk
   dsimp only at e1 e2
   subst e1 e2
   go_wp2_with fail
   refine (PC.out _ HB.out).mono ?_
   rintro e w2 ⟨rfl,hb2⟩
   have HB2:=Lib.hid (HB.out.trans (hb2.mono HB.out.size))
   clear hb2
   cases px with
   | true =>
    have R:=Lib.hid (YES.out rfl)
    go_wp2
    go_ret
    exact ⟨⟨(k:Int),rfl,R.out⟩,HB2.out⟩
   | false =>
    have HJ3:=Lib.hid (HJ2.out rfl)
    go_wp2
    exact ⟨⟨k+1,by omega,by go_num,HB2,HJ3⟩,by simp [intOf];omega⟩
  ·have R:Hid (IdxG l p (-1)):=Lib.hid (.inl ⟨rfl,fun x hx=>by
    obtain ⟨j,hj,rfl⟩:=List.getElem_of_mem hx
    exact HJ.out j hj (by omega)⟩)
   go_wp2
   go_ret
   exact ⟨⟨-1,rfl,R.out⟩,HB.out⟩

set_option maxRecDepth 100000 in
set_option maxHeartbeats 1000000 in
theorem mat_Find1 (c:Nat) (r:Rl) (x:MV) (w:World) (hx:x.form) (hc:Blk w c #[.string r.o,.string r.n]) :
  Calls Tryz.prog 86 #[mv x,.pointer (some ⟨c,0,none⟩)] w fun e w'=>e=.returned (.bool (eqRl x.s.r r))∧Below w.heap.size w w':=by
 have hEq:=role_eql
 obtain ⟨r1,r2⟩:=r
 obtain ⟨⟨⟨x1,x2⟩,x3,x4,x5,x6⟩,x7,x8⟩:=x
 obtain ⟨⟨f1,f2,f3,e1⟩,⟨f4,f5,f6,e2⟩⟩:=hx
 dsimp only at e1 e2
 subst e1 e2
 obtain ⟨cc,fc,zc⟩:=hc
 have HB:=Lib.hid (show Below w.heap.size w (w.alloc (.cells #[.string x1,.string x2,.slice f1 f2 f3,.slice f4 f5 f6,.bool x5,.int .i64 x6] 40)) from (Below.refl _ _).alloc (Nat.le_refl _) _)
 go_enter Tryz.func86,Tryz.ntmps86
 go_wp2
 go_ret
 exact ⟨rfl,HB.out⟩
theorem Blk.six0 {w:World} {g:Nat} {z0 z1 z2 z3 z4 z5:Value} (h:Blk w g #[z0,z1,z2,z3,z4,z5]) (x0 x1 x2 x3 x4 x5:Value):Blk (puts w g 0 [x0,x1,x2,x3,x4,x5]) g #[x0,x1,x2,x3,x4,x5]:=by
 have h:=(((((h.put (o:=0) (v:=x0) (by simp)).put (o:=1) (v:=x1) (by simp)).put (o:=2) (v:=x2) (by simp)).put (o:=3) (v:=x3) (by simp)).put (o:=4) (v:=x4) (by simp)).put (o:=5) (v:=x5) (by simp)
 simp at h
 exact h
theorem TwoAt.putsB6 {w wx:World} {A:Array Value} {z0 z1 z2 z3 z4 z5:Value} (h:TwoAt w A #[z0,z1,z2,z3,z4,z5] wx) (x0 x1 x2 x3 x4 x5:Value):TwoAt w A #[x0,x1,x2,x3,x4,x5] (puts wx (w.heap.size+1) 0 [x0,x1,x2,x3,x4,x5]) :=
 ⟨h.a.puts_far (by omega) _ 0 wx,h.b.six0 x0 x1 x2 x3 x4 x5,below_puts (by omega) _ 0 wx h.low⟩
def FindP (R:List MV) (r:Rl) (e:Ending):Prop :=
 (e=.returned (.tuple #[.agg #[.string emp,.string emp,.slice none 0 0,.slice none 0 0,.bool false,.int .i64 0],.bool false])∧∀ x∈R,¬ x.s.r=r)∨∃ x∈R,x.s.r=r∧e=.returned (.tuple #[mv x,.bool true])
set_option maxRecDepth 100000 in
set_option maxHeartbeats 4000000 in
theorem mat_Find (v:Value) (R:List MV) (r:Rl) (w:World) (hR:SlA w 6 v R.length (R.flatMap MV.cells)) (hfm:∀ x∈R,x.form) :
  Calls Tryz.prog 17 #[v,rv r] w fun e w'=>FindP R r e∧Below w.heap.size w w':=by
 have eg:∀ args w,(callFunc 86 args).run Tryz.prog w=.ok (.enter 86 args) w:=enters_of Tryz.func86 (by kernel_rfl) rfl
 obtain ⟨r1,r2⟩:=r
 have hz:Below w.heap.size w ((w.alloc (.cells #[.string r1,.string r2] 28)).alloc (.cells #[.string emp,.string emp,.slice none 0 0,.slice none 0 0,.bool false,.int .i64 0] 40)):=((Below.refl _ _).alloc (Nat.le_refl _) _).alloc (by simp) _
 have HT:=Lib.hid (show TwoAt w #[.string r1,.string r2] #[.string emp,.string emp,.slice none 0 0,.slice none 0 0,.bool false,.int .i64 0] ((w.alloc (.cells #[.string r1,.string r2] 28)).alloc (.cells #[.string emp,.string emp,.slice none 0 0,.slice none 0 0,.bool false,.int .i64 0] 40))
  from ⟨(Blk.new w _ _).alloc _,(by have:=Blk.new (w.alloc (.cells #[.string r1,.string r2] 28)) #[.string emp,.string emp,.slice none 0 0,.slice none 0 0,.bool false,.int .i64 0] 40;simpa using this),hz⟩)
 have HR:=Lib.hid hR
 have HF:=Lib.hid hfm
 obtain ⟨va,vc,rfl⟩:=hR.form
 have IX:=Lib.hid (mv_IndexFunc (.slice va R.length vc) R _ (hR.below hz) 86 #[.pointer (some ⟨w.heap.size,0,none⟩)] (fun x=>eqRl x.s.r ⟨r1,r2⟩) hfm eg (fun x W hx hb=>mat_Find1 w.heap.size ⟨r1,r2⟩ x W (hfm x hx) (HT.out.later hb).a))
 have hmx:=HR.out.max
 clear hR hfm eg hz
 go_enter Tryz.func17,Tryz.ntmps17
 go_wp2_with fail
 refine IX.out.mono ?_
 rintro e w1 ⟨⟨i,rfl,hi⟩,hb1⟩
 have HT:=Lib.hid (HT.out.later hb1)
 clear hb1 IX
 obtain ⟨cb,fb,zb⟩:=HT.out.b
 rcases hi with ⟨rfl,hn⟩ | ⟨k,hk,rfl,hy,_⟩
 ·have HN:=Lib.hid (show ∀ x∈R,¬ x.s.r=⟨r1,r2⟩ from fun x hx e=>by have:=hn x hx;unfold eqRl at this;exact of_decide_eq_false this e)
  clear hn
  go_wp2
  obtain ⟨wy,hwy⟩:∃ W,W=puts w1 (w.heap.size+1) 0 [.string emp,.string emp,.slice none 0 0,.slice none 0 0,.bool false,.int .i64 0]:=⟨_,rfl⟩
  have hch:((((((w1.setCell ⟨w.heap.size+1,0,none⟩ (.string emp)).setCell ⟨w.heap.size+1,1,none⟩ (.string emp)).setCell ⟨w.heap.size+1,2,none⟩ (.slice none 0 0)).setCell ⟨w.heap.size+1,3,none⟩ (.slice none 0 0)).setCell ⟨w.heap.size+1,4,none⟩ (.bool false)).setCell ⟨w.heap.size+1,5,none⟩ (.int .i64 0))=wy:=hwy.symm
  rw [hch]
  have HT:=Lib.hid (HT.out.putsB6 (.string emp) (.string emp) (.slice none 0 0) (.slice none 0 0) (.bool false) (.int .i64 0))
  rw [← hwy] at HT
  clear hch hwy cb fb zb
  obtain ⟨cb,fb,zb⟩:=HT.out.b
  exact bodyPost_ret (v:=.tuple #[.agg #[.string emp,.string emp,.slice none 0 0,.slice none 0 0,.bool false,.int .i64 0],.bool false]) (by simp [results,Tryz.results17,go_sem,cb]) rfl ⟨.inl ⟨rfl,HN.out⟩,HT.out.low⟩
 ·have hlow:=HT.out.low
  obtain ⟨b1,o1,c1,he1,hc1,hm1,hb1,hx1⟩:=(HR.out.below hlow).pos (by omega)
  simp only [Value.slice.injEq,true_and] at he1
  obtain ⟨rfl,rfl⟩:=he1
  obtain ⟨p0,p1,p2,p3,p4,p5⟩:=mv_cell hx1 k hk
  have hfk:=HF.out R[k] (List.getElem_mem hk)
  have HY:=Lib.hid (show FindP R ⟨r1,r2⟩ (.returned (.tuple #[mv R[k],.bool true])) from .inr ⟨R[k],List.getElem_mem hk,by unfold eqRl at hy;exact of_decide_eq_true hy,rfl⟩)
  clear hx1 hlow hy
  generalize R[k]=x at *
  obtain ⟨⟨⟨x1,x2⟩,x3,x4,x5,x6⟩,x7,x8⟩:=x
  obtain ⟨⟨f1,f2,f3,e1⟩,⟨f4,f5,f6,e2⟩⟩:=hfk
  dsimp only at e1 e2 p0 p1 p2 p3 p4 p5
  subst e1 e2
  have HR1:=HR
  go_wp2
  obtain ⟨wy,hwy⟩:∃ W,W=puts w1 (w.heap.size+1) 0 [.string x1,.string x2,.slice f1 f2 f3,.slice f4 f5 f6,.bool x5,.int .i64 x6]:=⟨_,rfl⟩
  have hch:((((((w1.setCell ⟨w.heap.size+1,0,none⟩ (.string x1)).setCell ⟨w.heap.size+1,1,none⟩ (.string x2)).setCell ⟨w.heap.size+1,2,none⟩ (.slice f1 f2 f3)).setCell ⟨w.heap.size+1,3,none⟩ (.slice f4 f5 f6)).setCell ⟨w.heap.size+1,4,none⟩ (.bool x5)).setCell ⟨w.heap.size+1,5,none⟩ (.int .i64 x6))=wy:=hwy.symm
  rw [hch]
  have HT:=Lib.hid (HT.out.putsB6 (.string x1) (.string x2) (.slice f1 f2 f3) (.slice f4 f5 f6) (.bool x5) (.int .i64 x6))
  rw [← hwy] at HT
  clear hch hwy cb fb zb
  obtain ⟨cb,fb,zb⟩:=HT.out.b
  exact bodyPost_ret (v:=.tuple #[.agg #[.string x1,.string x2,.slice f1 f2 f3,.slice f4 f5 f6,.bool x5,.int .i64 x6],.bool true]) (by simp [results,Tryz.results17,go_sem,cb]) rfl ⟨HY.out,HT.out.low⟩
def clsM (k:Int):Int:=if 1≤k∧k≤4 then k else 0
def cntM (R:List MR) (i:Int):Nat:=(R.filter (fun x=>decide (clsM x.k=i))).length
theorem cnt_snoc {R:List MR} {i:Int} {j:Nat} (hj:j < R.length):cntM (R.take (j+1)) i=cntM (R.take j) i+if clsM R[j].k=i then 1 else 0:=by
 unfold cntM
 rw [List.take_succ_eq_append_getElem hj,List.filter_append,List.length_append,List.filter_cons,List.filter_nil]
 by_cases h:clsM R[j].k=i
 ·rw [if_pos h,decide_eq_true h];rfl
 ·rw [if_neg h,decide_eq_false h];rfl
theorem cnt_le (R:List MR) (i:Int):cntM R i≤R.length:=List.length_filter_le _ _
def cntV (R:List MR):Value:=.agg #[.int .i64 (cntM R 0),.int .i64 (cntM R 1),.int .i64 (cntM R 2),.int .i64 (cntM R 3),.int .i64 (cntM R 4)]
end
end Go.Proofs.YtilgbodgmkmjjaaGreatDoor
