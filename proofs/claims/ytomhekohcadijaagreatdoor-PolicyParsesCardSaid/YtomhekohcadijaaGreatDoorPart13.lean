/- Parts: StrInsert StrPlace QWho OwnMono QParse SetFar TabAtR RuleEq TabRule TabLaw2 SemLaw SetBits -/
import Derived.Test.YtomhekohcadijaaGreatDoorPart6
import Derived.Test.YtomhekohcadijaaGreatDoorPart7
import Derived.Shelf.Spec.SlicesInsert
import Derived.Lib.AppendZerosOnto
import Derived.Test.YtomhekohcadijaaGreatDoorPart12
import Derived.Test.YtomhekohcadijaaGreatDoorPart1
import Derived.Test.YtomhekohcadijaaGreatDoorPart9
import Derived.Test.YtomhekohcadijaaGreatDoorPart3
import Derived.Test.YtomhekohcadijaaGreatDoorShelf2
import Derived.Test.YtomhekohcadijaaGreatDoorPart4
import Derived.Test.YtomhekohcadijaaGreatDoorPart2
import Derived.Lib.TrailingZeros
import Derived.Laws.Bits64b
import Derived.WalkSmall
namespace Go.Proofs.YtomhekohcadijaaGreatDoor
section
open Go.RowKit Go.Shelf

def setAll {α:Type}:Array α→Nat→List α→Array α
 | cur,_,[]=>cur
 | cur,o,v :: r=>setAll (cur.setIfInBounds o v) (o+1) r
theorem setAll_size {α:Type}:∀ (vs:List α) (o:Nat) (cur:Array α),(setAll cur o vs).size=cur.size
 | [],_,_=>rfl
 | v :: r,o,cur=>by rw [setAll,setAll_size r];simp
theorem setAll_list {α:Type}:∀ (vs:List α) (o:Nat) (cur:Array α),o+vs.length≤cur.size→(setAll cur o vs).toList=cur.toList.take o++vs++cur.toList.drop (o+vs.length)
 | [],o,cur,_=>by simp [setAll]
 | v :: r,o,cur,h=>by
  simp only [List.length_cons] at h
  have hl:cur.toList.length=cur.size:=Array.length_toList
  rw [setAll,setAll_list r (o+1) _ (by simp;omega),Array.toList_setIfInBounds,List.length_cons]
  have e1:(cur.toList.set o v).take (o+1)=cur.toList.take o++[v]:=by
   rw [List.take_succ_eq_append_getElem (by rw [List.length_set];omega)]
   rw [List.getElem_set_self,List.take_set_of_le (Nat.le_refl _)]
  have e2:(cur.toList.set o v).drop (o+1+r.length)=cur.toList.drop (o+(r.length+1)):=by
   rw [List.drop_set,if_pos (by omega),show o+1+r.length=o+(r.length+1) by omega]
  rw [e1,e2]
  simp
theorem heap_setCell {w:World} {g o:Nat} {v:Value} {cur:Array Value} {t:TypeId} {fz:Nat × Nat} (h:w.heap[g]? = some (.cells cur t fz)):(w.setCell ⟨g,o,none⟩ v).heap[g]? = some (.cells (cur.setIfInBounds o v) t fz):=by
 simp [World.setCell,Array.getElem?_modify,h]
theorem heap_setCells {g:Nat} {t:TypeId} {fz:Nat × Nat}:∀ (vs:List Value) (o:Nat) (cur:Array Value) (w:World),w.heap[g]? = some (.cells cur t fz)→(w.setCells g o vs).heap[g]? = some (.cells (setAll cur o vs) t fz)
 | [],_,_,_,h=>h
 | _ :: r,o,_,_,h=>heap_setCells r (o+1) _ _ (heap_setCell h)
theorem insAt_strs (xs:List ByteArray) (s:ByteArray) (i:Nat):strs (insAtB xs s i)=(strs xs).take i++Value.string s :: (strs xs).drop i:=by
 unfold insAtB strs
 rw [List.map_append,List.map_cons,List.map_take,List.map_drop]
theorem insAt_lastT (xs:List ByteArray) (s:ByteArray):insAtB xs s xs.length=xs++[s]:=by
 unfold insAtB
 rw [List.take_of_length_le (Nat.le_refl _),List.drop_of_length_le (Nat.le_refl _)]
set_option maxHeartbeats 4000000 in
set_option maxRecDepth 100000 in
theorem str_Insert_end (B:Nat) (v:Value) (xs:List ByteArray) (s:ByteArray) (vb:Nat) (w:World) (hown:w.ownsRow B 9 1 v xs.length (strs xs)) (hB:B≤w.heap.size) (hn:xs.length≤1000)
  (hv:w.heap[vb]? = some (.cells #[.string s] 9 (0,0))) :
  Calls Tryz.prog 243 #[v,.int .i64 xs.length,.slice (some ⟨vb,0,none⟩) 1 1] w fun e w' => ∃ a' c',e=.returned (.slice a' (xs.length+1) c')∧w'.ownsRow B 9 1 (.slice a' (xs.length+1) c') (xs.length+1) (strs (insAtB xs s xs.length))∧w.grownBy w' v.ownBlock:=by
 have HO:=Lib.hid hown
 have HE:=Lib.hid (show strs (insAtB xs s xs.length)=strs xs++[.string s] by rw [insAt_lastT];simp [strs])
 rcases hown.2 with ⟨rfl,h0⟩ | ⟨g,cap,cur,rfl,hbg,hg,hnc,hcm,hcs,htake⟩
 ·rw [h0] at HO HE ⊢
  clear hown
  go_enter Tryz.func243,Tryz.ntmps243
  go_wp2_with (at_builtin;refine halt_ ?_)
  unfold Halt_
  refine app_own Tryz.underlying27 str_info rfl (by decide) (by decide) rfl _ _ rfl B rfl HO.out [.string s] rfl hv rfl (str1 _) (by omega) hB ?_
  intro a' c' w' hown' hgrow
  go_wp2
  go_ret
  exact ⟨a',c',rfl,by rw [HE.out];exact hown',hgrow⟩
 ·have hcm':cap≤9223372036854775807:=by simpa [maxLen] using hcm
  clear hown htake hcs
  go_enter Tryz.func243,Tryz.ntmps243
  go_wp2_with (at_builtin;refine halt_ ?_)
  all_goals unfold Halt_
  all_goals first
   | refine app_own Tryz.underlying27 str_info rfl (by decide) (by decide) rfl _ _ rfl B rfl HO.out [.string s] rfl hv rfl (str1 _) (by omega) hB ?_
   | (obtain rfl:cap=xs.length:=(by omega);refine app_own Tryz.underlying27 str_info rfl (by decide) (by decide) rfl _ _ rfl B rfl HO.out [.string s] rfl hv rfl (str1 _) (by omega) hB ?_)
  all_goals intro a' c' w' hown' hgrow
  all_goals go_wp2
  all_goals go_ret
  all_goals exact ⟨a',c',rfl,by rw [HE.out];exact hown',hgrow⟩
theorem ins_list {A cs:List Value} (x:Value) (i n:Nat) (hA:A.take n=cs) (hi:i < n) (hn:n+1≤A.length) :
  (((A.take (i+1)++cs.drop i++A.drop (i+1+(n - i))).take i++[x]++(A.take (i+1)++cs.drop i++A.drop (i+1+(n - i))).drop (i+1))).take (n+1)=cs.take i++x :: cs.drop i:=by
 have hl:cs.length=n:=by rw [← hA,List.length_take];omega
 have h1:(A.take (i+1)).length=i+1:=by rw [List.length_take];omega
 have e1:(A.take (i+1)++cs.drop i++A.drop (i+1+(n - i))).take i=cs.take i:=by
  rw [List.append_assoc,List.take_append_of_le_length (by omega),List.take_take,← hA,List.take_take,Nat.min_eq_left (by omega),Nat.min_eq_left (by omega)]
 have e2:(A.take (i+1)++cs.drop i++A.drop (i+1+(n - i))).drop (i+1)=cs.drop i++A.drop (i+1+(n - i)):=by
  rw [List.append_assoc,List.drop_left' h1]
 rw [e1,e2]
 have e3:cs.take i++[x]++(cs.drop i++A.drop (i+1+(n - i)))=(cs.take i++x :: cs.drop i)++A.drop (i+1+(n - i)):=by simp
 rw [e3]
 have h2:(cs.take i++x :: cs.drop i).length=n+1:=by simp only [List.length_append,List.length_cons,List.length_take,List.length_drop];omega
 exact List.take_left' h2
theorem ov_apart (vb g o lb cb:Nat) (s:ByteArray) (cur:Array Value) (w:World) (hv:w.heap[vb]? = some (.cells #[.string s] 9 (0,0))) (hg:w.heap[g]? = some (.cells cur 9 (0,0))) (hne:vb≠g) (hcur:cur.size≠0) :
  (callFunc 271 #[.slice (some ⟨vb,0,none⟩) 1 1,.slice (some ⟨g,o,none⟩) lb cb]).run Tryz.prog w=.ok (.value (.bool false)) w:=by
 obtain ⟨i0,hi0,hz0,hz1,hz2⟩:=info_parts str_info
 rw [run_callFunc_extern Tryz.func271 (by kernel_rfl) (by kernel_rfl) (by kernel_rfl) (e:=Extern.SlicesOverlaps.overlaps #[27,27] #[4]) (by kernel_rfl),
  Lib.run_overlaps_apart w 27 4 9 Tryz.underlying27 1 (fun w=>by simp [sizeOf,typeInfo,hi0,hz1]) ⟨vb,0,none⟩ ⟨g,o,none⟩ 1 1 lb cb hne 9 9 1 cur.size (by simp [World.shape?,hv]) (by simp [World.shape?,hg]) hcur (by simp [World.frozen?,hv]) (by simp [World.frozen?,hv])]
 rfl
set_option maxHeartbeats 4000000 in
set_option maxRecDepth 100000 in
theorem str_Insert_room (B g cap i vb:Nat) (cur:Array Value) (xs:List ByteArray) (s:ByteArray) (w:World) (hbg:B≤g) (hg:w.heap[g]? = some (.cells cur 9 (0,0))) (hi:i < xs.length) (hroom:xs.length+1≤cap) (hcm:cap≤maxLen)
  (hcs:cur.size=cap) (htake:cur.toList.take xs.length=strs xs) (hn:xs.length≤1000) (hv:w.heap[vb]? = some (.cells #[.string s] 9 (0,0))) (hne:vb≠g) :
  Calls Tryz.prog 243 #[.slice (some ⟨g,0,none⟩) xs.length cap,.int .i64 i,.slice (some ⟨vb,0,none⟩) 1 1] w fun e w' =>
   e=.returned (.slice (some ⟨g,0,none⟩) (xs.length+1) cap)∧w'.ownsRow B 9 1 (.slice (some ⟨g,0,none⟩) (xs.length+1) cap) (xs.length+1) (strs (insAtB xs s i))∧w.grownBy w' (some g):=by
 have HE:=Lib.hid (insAt_strs xs s i)
 have hsz:(Tryz.prog.info? 9).map (·.size)=some 1:=by
  obtain ⟨i0,hi0,h0,h1,h2⟩:=info_parts str_info
  rw [hi0];simp [h1]
 have hcl:(strs xs).length=xs.length:=by simp [strs]
 have h1c:=strs_one xs
 generalize strs xs=cs at *
 generalize strs (insAtB xs s i)=res at *
 obtain ⟨n,hxn⟩:∃ n,xs.length=n:=⟨_,rfl⟩
 rw [hxn] at hi hroom htake hn hcl ⊢
 clear hxn
 have hcm':cap≤9223372036854775807:=by simpa [maxLen] using hcm
 have hov:∀ lb cb,(callFunc 271 #[.slice (some ⟨vb,0,none⟩) 1 1,.slice (some ⟨g,i+1,none⟩) lb cb]).run Tryz.prog w=.ok (.value (.bool false)) w:=fun lb cb=>ov_apart vb g (i+1) lb cb s cur w hv hg hne (by omega)
 have hdl:(cs.drop i).length=n - i:=by rw [List.length_drop,hcl]
 have hcell:∀ j,w.cell? ⟨g,j,none⟩=cur[j]? := fun j=>cell_of_row w g j cur _ _ hg
 have hat:∀ j v,cs[j]? = some v→cur[j]? = some v:=fun j v hj=>by
  have hjn:j < n:=by have:=(List.getElem?_eq_some_iff.1 hj).1;omega
  rw [← htake,List.getElem?_take_of_lt hjn] at hj
  simpa using hj
 have hsp:∀ j,j < n+1→(w.cell? ⟨g,j,none⟩).isSome=true:=fun j hj=>by rw [hcell,Array.getElem?_eq_getElem (by omega)];rfl
 have hfz:∀ j,w.frozen? ⟨g,j,none⟩=false:=fun j=>by simp [World.frozen?,hg]
 have hcp1:∀ ty dc sc,(Builtin.copy_ #[27,27] ty #[.slice (some ⟨g,i+1,none⟩) (n - i) dc,.slice (some ⟨g,i,none⟩) (n+1 - i) sc]).run Tryz.prog w.drew=.ok (goInt (cs.drop i).length) (w.drew.setCells g (i+1) (cs.drop i)):=fun ty dc sc =>
  run_copy_cells w.drew _ _ ty 9 g (i+1) (n - i) dc ⟨g,i,none⟩ (n+1 - i) sc (cs.drop i) Tryz.underlying27 hsz (by rw [hdl];simp only [Nat.min_def];split <;> omega)
   (fun j v hj=>by rw [Addr.add_lit];show w.cell? _=_;rw [hcell];exact hat (i+j) v (by rwa [List.getElem?_drop] at hj))
   (fun j hj=>hsp _ (by omega)) (fun j hj=>hfz _) (fun v hv=>h1c v (List.mem_of_mem_drop hv))
 obtain ⟨W1,hW1⟩:∃ W1,W1=w.drew.setCells g (i+1) (cs.drop i):=⟨_,rfl⟩
 have hg1:W1.heap[g]? = some (.cells (setAll cur (i+1) (cs.drop i)) 9 (0,0)):=by rw [hW1];exact heap_setCells _ _ _ _ hg
 have hs1:(setAll cur (i+1) (cs.drop i)).size=cap:=by rw [setAll_size,hcs]
 have hcp2:∀ (W:World),(∀ x,W.cell? x=W1.cell? x)→(∀ x,W.frozen? x=W1.frozen? x)→∀ ty dc,(Builtin.copy_ #[27,27] ty #[.slice (some ⟨g,i,none⟩) (n+1 - i) dc,.slice (some ⟨vb,0,none⟩) 1 1]).run Tryz.prog W=.ok (goInt [Value.string s].length) (W.setCells g i [.string s]):=fun W hWc hWf ty dc =>
  run_copy_cells W _ _ ty 9 g i (n+1 - i) dc ⟨vb,0,none⟩ 1 1 [.string s] Tryz.underlying27 hsz (by simp only [List.length_singleton,Nat.min_def];split <;> omega)
   (fun j v hj=>by
    rw [Addr.add_lit,hWc,hW1,World.cell?_setCells_out g _ _ _ _ (fun h _=>absurd h hne)]
    show w.cell? _=_
    rw [cell_of_row w vb _ _ _ _ hv]
    simpa using hj)
   (fun j hj=>by rw [hWc,cell_of_row W1 g _ _ _ _ hg1,Array.getElem?_eq_getElem (by simp only [List.length_singleton] at hj;omega)];rfl) (fun j hj=>by rw [hWf];simp [World.frozen?,hg1]) (str1 s)
 rw [← hW1] at hcp1
 have FIN:(W1.setCells g i [.string s]).ownsRow B 9 1 (.slice (some ⟨g,0,none⟩) (n+1) cap) (n+1) res∧w.grownBy (W1.setCells g i [.string s]) (some g):=by
  refine ⟨⟨by rw [HE.out];simp only [List.length_append,List.length_cons,List.length_take,List.length_drop];omega,.inr ⟨g,cap,_,rfl,hbg,heap_setCells _ _ _ _ hg1,hroom,hcm,by rw [setAll_size,hs1,Nat.mul_one],?_⟩⟩,?_⟩
  ·rw [setAll_list _ _ _ (by simp only [List.length_singleton];omega),setAll_list _ _ _ (by rw [hdl];omega),HE.out,Nat.mul_one,hdl]
   exact ins_list _ i n htake hi (by rw [Array.length_toList];omega)
  ·rw [hW1]
   exact grown_sets _ _ _ (grown_sets _ _ _ (gb_drew (World.grownBy.refl _ _)))
 have HF:=Lib.hid FIN
 have hw1:IntKind.i64.wrap ((i:Int)+1)=(i:Int)+1:=by rw [IntKind.wrap_i64];omega
 have htn:((i:Int)+1).toNat=i+1:=by omega
 have hb2:¬ (cap=i+1):=by omega
 have hb4:¬ (cap=i):=by omega
 have hz2:¬ ((i:Int)=(n:Int)):=by omega
 have hin:i≤n:=by omega
 have hb1:(0:Int)≤(i:Int)+1:=by omega
 have mixed:Tryz.prog.follows Departure.mixedOrders=true:=by kernel_rfl
 have hb3:(i:Int)≤(n:Int)+1:=by omega
 have hin1:i+1≤n+1:=by omega
 clear FIN HE htake hat hg1 hs1 hsp hfz hcell hdl hcl h1c hcs hv hg
 go_enter Tryz.func243,Tryz.ntmps243
 go_wp2_with (simp only [hov])
 go_region_law_o (refine step_copy_runI rfl _ _ 27 27 rfl _ _ (by simp [Act.eval,Act.put]) (by simp [Act.eval,Act.put]) (hcp1 _ _ _) ?_)
 go_wp2_with (at_builtin;refine wpList_copy_runI _ rfl _ _ 27 27 rfl _ _ rfl rfl (hcp2 _ (fun _=>rfl) (fun _=>rfl) _ _) ?_)
 go_ret
 have HF2:=HF.out
 rw [hW1] at HF2
 exact ⟨rfl,HF2.1,HF2.2⟩
theorem gb_newSets {w:World} {r:Option Nat} {G:Nat} (hG:w.heap.size≤G):∀ (vs:List Value) (o:Nat) (w':World),w.grownBy w' r→w.grownBy (w'.setCells G o vs) r
 | [],_,_,h=>h
 | v :: vs,o,_,h=>gb_newSets hG vs (o+1) _ (gb_new h hG v)
theorem ins_list2 {A cs:List Value} (x:Value) (i n:Nat) (hA:A.take i=cs.take i) (hl:cs.length=n) (hi:i < n) (hn:n+1≤A.length) :
  ((A.take i++[x]++A.drop (i+1)).take (i+1)++cs.drop i++(A.take i++[x]++A.drop (i+1)).drop (i+1+(n - i))).take (n+1)=cs.take i++x :: cs.drop i:=by
 have h1:(A.take i++[x]).length=i+1:=by simp only [List.length_append,List.length_take,List.length_singleton];omega
 have e1:(A.take i++[x]++A.drop (i+1)).take (i+1)=cs.take i++[x]:=by rw [List.take_left' h1,hA]
 rw [e1]
 have h2:(cs.take i++[x]++cs.drop i).length=n+1:=by simp only [List.length_append,List.length_singleton,List.length_take,List.length_drop];omega
 rw [List.take_left' h2]
 simp
set_option maxHeartbeats 4000000 in
set_option maxRecDepth 100000 in
theorem str_Insert_grow (B g cap i vb:Nat) (cur:Array Value) (xs:List ByteArray) (s:ByteArray) (w:World) (hB:B≤w.heap.size) (hg:w.heap[g]? = some (.cells cur 9 (0,0))) (hi:i < xs.length) (hnc:xs.length≤cap) (hroom:cap < xs.length+1)
  (hcs:cur.size=cap) (htake:cur.toList.take xs.length=strs xs) (hn:xs.length≤1000) (hv:w.heap[vb]? = some (.cells #[.string s] 9 (0,0))) :
  Calls Tryz.prog 243 #[.slice (some ⟨g,0,none⟩) xs.length cap,.int .i64 i,.slice (some ⟨vb,0,none⟩) 1 1] w fun e w' =>
   ∃ GC,e=.returned (.slice (some ⟨w.heap.size,0,none⟩) (xs.length+1) GC)∧w'.ownsRow B 9 1 (.slice (some ⟨w.heap.size,0,none⟩) (xs.length+1) GC) (xs.length+1) (strs (insAtB xs s i))∧w.grownBy w' (some g):=by
 have hcs2:=hcs
 clear hcs2
 have HE:=Lib.hid (insAt_strs xs s i)
 obtain ⟨i0,hi0,hz0,hz1,hz2⟩:=info_parts str_info
 have hsz:(Tryz.prog.info? 9).map (·.size)=some 1:=by rw [hi0];simp [hz1]
 have hcl:(strs xs).length=xs.length:=by simp [strs]
 have h1c:=strs_one xs
 generalize strs xs=cs at *
 generalize strs (insAtB xs s i)=res at *
 obtain ⟨n,hxn⟩:∃ n,xs.length=n:=⟨_,rfl⟩
 rw [hxn] at hi hroom hnc htake hn hcl ⊢
 clear hxn
 obtain ⟨k,hk⟩:∃ k,n+1=i+k:=⟨n+1 - i,by omega⟩
 have hglt:g < w.heap.size:=(Array.getElem?_eq_some_iff.1 hg).1
 have hvlt:vb < w.heap.size:=(Array.getElem?_eq_some_iff.1 hv).1
 have hcell:∀ j,w.cell? ⟨g,j,none⟩=cur[j]? := fun j=>cell_of_row w g j cur _ _ hg
 have hat:∀ j v,cs[j]? = some v→cur[j]? = some v:=fun j v hj=>by
  have hjn:j < n:=by have:=(List.getElem?_eq_some_iff.1 hj).1;omega
  rw [← htake,List.getElem?_take_of_lt hjn] at hj
  simpa using hj
 have hdl:(cs.drop i).length=n - i:=by rw [List.length_drop,hcl]
 have htl:(cs.take i).length=i:=by rw [List.length_take];omega
 obtain ⟨GC,hGC⟩:∃ GC,GC=grownCap w (i+k) cap 9:=⟨_,rfl⟩
 have hge:i+k≤GC:=by rw [hGC];exact grownCap_ge w (i+k) cap 9
 have hGm:GC≤maxLen:=by rw [hGC];exact grownCap_le_maxLen w (i+k) cap 9 (by simp only [maxLen];omega)
 have hGm':GC≤9223372036854775807:=by simpa [maxLen] using hGm
 obtain ⟨z,hz⟩:∃ z,z=(Value.string ByteArray.empty):=⟨_,rfl⟩
 obtain ⟨A,hA⟩:∃ A,A=(cs.take i).toArray++Builtin.zeroCells z.cells k++Builtin.zeroCells z.cells (GC - (i+k)):=⟨_,rfl⟩
 have hzs:z.cells.size=1:=by rw [hz];rfl
 have hAs:A.size=GC:=by rw [hA];simp only [Array.size_append,List.size_toArray,size_zeroCells,hzs,htl];omega
 have hAt:A.toList.take i=cs.take i:=by rw [hA];simp only [Array.toList_append,List.append_assoc];exact List.take_left' htl
 have hrun:∀ ty,(Builtin.append_ #[27,3] ty #[.slice (some ⟨g,0,none⟩) i cap,.int .i64 (k:Nat)]).run Tryz.prog w=.ok (.slice (some ⟨w.heap.size,0,none⟩) (i+k) GC) (w.drew.alloc (.cells A 9)):=fun ty=>by
  rw [hA,hGC,hz]
  exact Lib.run_append_grow_zeros w 27 3 ty 9 i0 _ .i64 .i64 Tryz.underlying27 Tryz.underlying3 hi0 hz0 (some ⟨g,0,none⟩) i cap (cs.take i)
   (by rw [hz1];exact run_firstCells_some w.drew 1 i ⟨g,0,none⟩ i cap (cs.take i) (by omega) (fun j v hj=>by
    rw [Addr.add_lit,Nat.zero_add]
    show w.cell? _=_
    rw [hcell]
    have hji:j < i:=by have:=(List.getElem?_eq_some_iff.1 hj).1;omega
    rw [List.getElem?_take_of_lt hji] at hj
    exact hat j v hj))
   k (by omega) (by omega) (by omega) (by omega) (by rw [hz2];omega) (by rw [hz2];exact growslice_fits (by omega) (by omega))
 obtain ⟨W0,hW0⟩:∃ W0,W0=w.drew.alloc (.cells A 9):=⟨_,rfl⟩
 rw [← hW0] at hrun
 obtain ⟨G,hG⟩:∃ G,G=w.heap.size:=⟨_,rfl⟩
 have hg0:W0.heap[G]? = some (.cells A 9 (0,0)):=by rw [hW0,hG];exact heap_alloc_new w.drew _
 have old:∀ b,b < w.heap.size→W0.heap[b]? = w.heap[b]? := fun b hb=>by rw [hW0];exact heap_alloc_old w.drew _ hb
 have hcpA:∀ (W:World),W=W0→∀ ty dc,(Builtin.copy_ #[27,27] ty #[.slice (some ⟨G,i,none⟩) k dc,.slice (some ⟨vb,0,none⟩) 1 1]).run Tryz.prog W=.ok (goInt [Value.string s].length) (W.setCells G i [.string s]):=fun W hW ty dc=>by
  subst hW
  exact run_copy_cells W _ _ ty 9 G i k dc ⟨vb,0,none⟩ 1 1 [.string s] Tryz.underlying27 hsz (by simp only [List.length_singleton,Nat.min_def];split <;> omega)
   (fun j v hj=>by
    rw [Addr.add_lit,cell_of_row W vb _ _ _ _ ((old vb hvlt).trans hv)]
    simpa using hj)
   (fun j hj=>by rw [cell_of_row W G _ _ _ _ hg0,Array.getElem?_eq_getElem (by simp only [List.length_singleton] at hj;omega)];rfl) (fun j hj=>by simp [World.frozen?,hg0]) (str1 s)
 obtain ⟨W1,hW1⟩:∃ W1,W1=W0.setCells G i [.string s]:=⟨_,rfl⟩
 have hg1:W1.heap[G]? = some (.cells (setAll A i [.string s]) 9 (0,0)):=by rw [hW1];exact heap_setCells _ _ _ _ hg0
 have hs1:(setAll A i [Value.string s]).size=GC:=by rw [setAll_size,hAs]
 have hGg:¬ g=G:=by omega
 have hcpB:∀ (W:World),(∀ x,W.cell? x=W1.cell? x)→(∀ x,W.frozen? x=W1.frozen? x)→∀ ty dc sc,(Builtin.copy_ #[27,27] ty #[.slice (some ⟨G,i+1,none⟩) (i+k - (i+1)) dc,.slice (some ⟨g,i,none⟩) (n - i) sc]).run Tryz.prog W=.ok (goInt (cs.drop i).length) (W.setCells G (i+1) (cs.drop i)):=fun W hWc hWf ty dc sc =>
  run_copy_cells W _ _ ty 9 G (i+1) (i+k - (i+1)) dc ⟨g,i,none⟩ (n - i) sc (cs.drop i) Tryz.underlying27 hsz (by rw [hdl];simp only [Nat.min_def];split <;> omega)
   (fun j v hj=>by
    rw [Addr.add_lit,hWc,hW1,World.cell?_setCells_out G _ _ _ _ (fun h _=>absurd h hGg),cell_of_row W0 g _ _ _ _ ((old g hglt).trans hg)]
    exact hat (i+j) v (by rwa [List.getElem?_drop] at hj))
   (fun j hj=>by rw [hWc,cell_of_row W1 G _ _ _ _ hg1,Array.getElem?_eq_getElem (by omega)];rfl) (fun j hj=>by rw [hWf];simp [World.frozen?,hg1]) (fun v hv=>h1c v (List.mem_of_mem_drop hv))
 have FIN:∀ W:World,W.heap=(W1.setCells G (i+1) (cs.drop i)).heap→W.ownsRow B 9 1 (.slice (some ⟨G,0,none⟩) (n+1) GC) (n+1) res:=fun W hWh=>by
  refine ⟨by rw [HE.out];simp only [List.length_append,List.length_cons,List.length_take,List.length_drop];omega,.inr ⟨G,GC,setAll (setAll A i [.string s]) (i+1) (cs.drop i),rfl,by omega,by rw [hWh];exact heap_setCells _ _ _ _ hg1,by omega,hGm,by rw [setAll_size,hs1,Nat.mul_one],?_⟩⟩
  rw [setAll_list _ _ _ (by rw [hs1,hdl];omega),setAll_list _ _ _ (by rw [hAs,List.length_singleton];omega),HE.out,Nat.mul_one,hdl,List.length_singleton]
  exact ins_list2 _ i n hAt hcl hi (by rw [Array.length_toList];omega)
 have HF:=Lib.hid FIN
 have hw2:IntKind.i64.wrap ((n:Int)+1 - (i:Int))=(k:Int):=by rw [IntKind.wrap_i64];omega
 have hw1:IntKind.i64.wrap ((i:Int)+1)=(i:Int)+1:=by rw [IntKind.wrap_i64];omega
 have htn:((i:Int)+1).toNat=i+1:=by omega
 have hb2:¬ (GC=i+1):=by omega
 have hb4:¬ (GC=i):=by omega
 have hb5:¬ (cap=i):=by omega
 have hz2:¬ ((i:Int)=(n:Int)):=by omega
 have hin:i≤n:=by omega
 have hic:i≤cap:=by omega
 have hb1:(0:Int)≤(i:Int)+1:=by omega
 have hik:(i:Int)+1≤(i:Int)+(k:Int):=by omega
 have hk1:1≤k:=by omega
 have HG:=Lib.hid hG
 have HK:=Lib.hid hk
 have HW0:=Lib.hid hW0
 have HW1:=Lib.hid hW1
 have mixed:Tryz.prog.follows Departure.mixedOrders=true:=by kernel_rfl
 rw [← hG] at hrun ⊢
 clear FIN HE htake hat hg1 hs1 hcell hdl hcl h1c hcs hv hg hA hAs hAt hge hGm hGC hg0 old htl hz0 hz1 hi0 hzs hz hG hW0 hW1 hglt hvlt hk
 go_enter Tryz.func243,Tryz.ntmps243
 go_wp2_with (at_builtin;refine Lib.wpList_append_run _ rfl _ _ _ _ rfl _ _ rfl rfl _ _ (hrun _) ?_)
 go_wp2_with (at_builtin;refine wpList_copy_runI _ rfl _ _ 27 27 rfl _ _ rfl rfl (hcpA _ rfl _ _) ?_)
 rw [← HW1.out]
 have hcpC:=hcpB W1.drew (fun _=>rfl) (fun _=>rfl)
 clear hcpB hcpA hrun
 go_region_law_o (refine step_copy_runI rfl _ _ 27 27 rfl _ _ (by simp [Act.eval,Act.put]) (by simp [Act.eval,Act.put]) (hcpC _ _ _) ?_)
 all_goals go_wp2
 all_goals go_ret
 all_goals exact ⟨GC,by rw [← HK.out];rfl,HF.out _ (by rw [← drew_setCells];rfl),by
  rw [HW1.out,HW0.out]
  exact gb_newSets (Nat.le_of_eq HG.out.symm) _ _ _ (gb_drew (gb_newSets (Nat.le_of_eq HG.out.symm) _ _ _ (gb_alloc (gb_drew (World.grownBy.refl _ _)) _)))⟩
set_option maxHeartbeats 1000000 in
theorem str_Insert (B:Nat) (v:Value) (xs:List ByteArray) (s:ByteArray) (i vb:Nat) (w:World) (hown:w.ownsRow B 9 1 v xs.length (strs xs)) (hB:B≤w.heap.size) (hn:xs.length≤1000) (hi:i≤xs.length)
  (hv:w.heap[vb]? = some (.cells #[.string s] 9 (0,0))) (hne:v.ownBlock≠some vb) :
  Calls Tryz.prog 243 #[v,.int .i64 i,.slice (some ⟨vb,0,none⟩) 1 1] w fun e w' => ∃ a' c',e=.returned (.slice a' (xs.length+1) c')∧w'.ownsRow B 9 1 (.slice a' (xs.length+1) c') (xs.length+1) (strs (insAtB xs s i))∧w.grownBy w' v.ownBlock:=by
 by_cases he:i=xs.length
 ·subst he
  exact str_Insert_end B v xs s vb w hown hB hn hv
 ·rcases hown.2 with ⟨rfl,h0⟩ | ⟨g,cap,cur,rfl,hbg,hg,hnc,hcm,hcs,htake⟩
  ·omega
  ·rw [Nat.mul_one] at hcs htake
   by_cases hroom:xs.length+1≤cap
   ·refine (str_Insert_room B g cap i vb cur xs s w hbg hg (by omega) hroom hcm hcs htake hn hv (fun e=>hne (by rw [e];rfl))).mono ?_
    rintro e w' ⟨rfl,h1,h2⟩
    exact ⟨_,_,rfl,h1,h2⟩
   ·refine (str_Insert_grow B g cap i vb cur xs s w hB hg (by omega) hnc (by omega) hcs htake hn hv).mono ?_
    rintro e w' ⟨GC,rfl,h1,h2⟩
    exact ⟨_,_,rfl,h1,h2⟩
end
section
open Go.RowKit Go.Shelf

theorem hasB_none {l:List ByteArray} {s:ByteArray} (hl:AscB l) (h:placeB l s = -1):hasB l s=false:=by
 cases hh:hasB l s with
 | false=>rfl
 | true =>
  obtain ⟨j,hj,e⟩:=List.getElem_of_mem ((hasB_mem l s).1 hh)
  have:=place_asc hl hj e
  omega
def SearchP (l:List ByteArray) (s:ByteArray) (e:Ending):Prop:=∃ (k:Nat),e=.returned (.tuple #[.int .i64 k,.bool (hasB l s)])∧k≤l.length∧posSB l s=k
set_option maxRecDepth 100000 in
set_option maxHeartbeats 4000000 in
theorem str_Place (va:Value) (l:List ByteArray) (s:ByteArray) (w:World) (ha:SlA w 1 va l.length (strs l)) (hl:AscB l) (hn:l.length≤100000) :
  Calls Tryz.prog 242 #[va,.string s] w fun e w'=>SearchP l s e∧w'=w:=by
 have HA:=Lib.hid ha
 have HL:=Lib.hid hl
 have LS:=Lib.hid (fun x W=>cmp_LessS x s W)
 have NN:=Lib.hid (fun x W=>sl_isNaNs x W)
 obtain ⟨ao,cap,rfl⟩:=ha.form
 clear ha hl
 go_enter Tryz.func242,Tryz.ntmps242
 go_wp2_with fail
 go_loop [7,8] (fun iv jv => ∃ i j:Nat,i≤j∧j≤l.length∧iv=.int .i64 i∧jv=.int .i64 j∧Hid (∀ k (hk:k < l.length),k < i→cmpS l[k] s < 0)∧Hid (∀ k (hk:k < l.length),j≤k→0≤cmpS l[k] s)) (fun iv jv=>(intOf jv).toNat - (intOf iv).toNat)
 case atStart=>exact ⟨0,l.length,by omega,Nat.le_refl _,rfl,rfl,Lib.hid (fun _ _ h=>absurd h (by omega)),Lib.hid (fun k hk h=>absurd hk (by omega))⟩
 case round =>
  obtain ⟨i,j,hij,hj,rfl,rfl,H1,H2⟩:=hrel
  by_cases hlt:i < j
  ·have e1:IntKind.i64.wrap ((i:Int)+j)=i+j:=Go.IntWalk.i64_in _ (by omega)
   have d:decide ((i:Int) < (j:Int))=true:=by rw [decide_eq_true_iff];omega
   have hil:(i+j) / 2 < l.length:=by omega
   obtain ⟨b1,o1,c1,he1,hc1,hm1,hb1,hx1⟩:=HA.out.pos (by omega)
   simp only [Value.slice.injEq,true_and] at he1
   obtain ⟨rfl,rfl⟩:=he1
   have p0:=hx1 ((i+j) / 2) _ (strs_get hil)
   have e3:IntKind.i64.wrap (((i:Int)+j) / 2+1)=((i:Int)+j) / 2+1:=Go.IntWalk.i64_in _ (by omega)
   have SY:=Lib.hid (fun e=>search_yes HL.out (s:=s) hil e)
   have SN:=Lib.hid (fun (e:0≤cmpS l[(i+j) / 2] s) k hk h=>Int.not_lt.1 (search_no HL.out (s:=s) hil (Int.not_lt.2 e) k hk h))
   clear hx1
   generalize l[(i+j) / 2]=x at p0 SY SN
   go_wp2_with fail
   refine (LS.out _ _).mono ?_
   rintro e w1 ⟨rfl,rfl⟩
   by_cases hc:cmpS x s < 0
   ·have dc:decide (cmpS x s < 0)=true:=decide_eq_true hc
    have H3:=Lib.hid (SY.out hc)
    rw [dc]
    clear hc SY SN
    go_wp2
    exact ⟨⟨(i+j) / 2+1,j,by omega,hj,congrArg (Value.int .i64) (by omega),rfl,H3,H2⟩,by simp [intOf];omega⟩
   ·have dc:decide (cmpS x s < 0)=false:=decide_eq_false hc
    have H3:=Lib.hid (SN.out (Int.not_lt.1 hc))
    rw [dc]
    clear hc SY SN
    go_wp2
    exact ⟨⟨i,(i+j) / 2,by omega,by omega,rfl,congrArg (Value.int .i64) (by omega),H1,H3⟩,by simp [intOf];omega⟩
  ·obtain rfl:i=j:=by omega
   have d:decide ((i:Int) < (i:Int))=false:=by rw [decide_eq_false_iff_not];omega
   by_cases hil:i < l.length
   ·obtain ⟨b1,o1,c1,he1,hc1,hm1,hb1,hx1⟩:=HA.out.pos (by omega)
    simp only [Value.slice.injEq,true_and] at he1
    obtain ⟨rfl,rfl⟩:=he1
    have p0:=hx1 i _ (strs_get hil)
    have d2:decide ((i:Int) < (l.length:Int))=true:=by rw [decide_eq_true_iff];omega
    clear hx1
    by_cases he:l[i]=s
    ·have R:=Lib.hid (show hasB l s=true∧posSB l s=i from ⟨hasB_yes hil he,pos_ofB l s i hj H1.out (fun hk=>Int.not_lt.2 (H2.out i hk (Nat.le_refl _)))⟩)
     rw [he] at p0
     clear he
     go_wp2
     refine bodyPost_ret (v:=.tuple #[.int .i64 i,.bool true]) (by simp [results,Tryz.results242,go_sem]) rfl ⟨⟨i,by rw [R.out.1],hj,R.out.2⟩,rfl⟩
    ·have R:=Lib.hid (show hasB l s=false∧posSB l s=i from ⟨hasB_none HL.out (place_gap HL.out H1.out (fun k hk h=>Int.not_lt.2 (H2.out k hk h)) (fun _=>he) HL.out),pos_ofB l s i hj H1.out (fun hk=>Int.not_lt.2 (H2.out i hk (Nat.le_refl _)))⟩)
     have hne:=beq_str l[i] s
     rw [decide_eq_false he] at hne
     clear he
     generalize l[i]=x at p0 hne
     go_wp2_with fail
     refine (NN.out _ _).mono ?_
     rintro e w1 ⟨rfl,rfl⟩
     go_wp2
     refine bodyPost_ret (v:=.tuple #[.int .i64 i,.bool false]) (by simp [results,Tryz.results242,go_sem]) rfl ⟨⟨i,by rw [R.out.1],hj,R.out.2⟩,rfl⟩
   ·have R:=Lib.hid (show hasB l s=false∧posSB l s=i from ⟨hasB_none HL.out (place_gap HL.out H1.out (fun k hk h=>Int.not_lt.2 (H2.out k hk h)) (fun h=>absurd h hil) HL.out),pos_ofB l s i hj H1.out (fun hk=>Int.not_lt.2 (H2.out i hk (Nat.le_refl _)))⟩)
    have d2:decide ((i:Int) < (l.length:Int))=false:=by rw [decide_eq_false_iff_not];omega
    go_wp2
    refine bodyPost_ret (v:=.tuple #[.int .i64 i,.bool false]) (by simp [results,Tryz.results242,go_sem]) rfl ⟨⟨i,by rw [R.out.1],hj,R.out.2⟩,rfl⟩
end
section
open Go.RowKit Go.Shelf

theorem gb_far {a b c:World} {r q:Option Nat} (h:a.grownBy b r) (h2:b.grownBy c q) (hq:∀ k,q=some k→a.heap.size≤k):a.grownBy c r :=
 ⟨h2.os.trans h.os,h2.tape.trans h.tape,h2.output.trans h.output,Nat.le_trans h.size h2.size,fun i hi hne=>(h2.block i (Nat.lt_of_lt_of_le hi h.size) (fun e=>by have:=hq i e.symm;omega)).trans (h.block i hi hne)⟩
set_option maxRecDepth 100000 in
set_option maxHeartbeats 8000000 in
theorem qr_who (r:Rd) (few:Int) (w0 w:World) (g:Nat) (h:RdAt w0 w g r) (hn:r.l.length≤1000) :
  Calls Tryz.prog 184 #[.pointer (some ⟨g,0,none⟩),.int .i64 few] w fun e w' => ∃ a c,e=.returned (.slice a (r.who few).1.length c)∧RdAt w0 w' g (r.who few).2∧w'.ownsRow w.heap.size 9 1 (.slice a (r.who few).1.length c) (r.who few).1.length (strs (r.who few).1)∧w.grownBy w' (some g):=by
 have hglt:=h.lt
 have hlow0:=h.below.size
 obtain ⟨N,hN⟩:∃ N,N=r.l.length:=⟨_,rfl⟩
 rw [← hN] at hn
 have START:∃ (acc:List ByteArray) (R:Rd),acc.length=0∧0≤N+1∧RdAt w0 w g R∧((R.why=0∧whoT few R.l 0 acc R.e R.p=r.who few∧AscB acc∧acc.length≤12∧0+R.l.length=N)∨(¬ R.why=0∧(acc,R)=r.who few)):=by
  refine ⟨[],r,rfl,by omega,h,?_⟩
  by_cases hy:r.why=0
  ·exact .inl ⟨hy,(if_neg (fun h=>h hy)).symm,List.Pairwise.nil,by simp,by omega⟩
  ·exact .inr ⟨hy,(if_pos hy).symm⟩
 have HS:=Lib.hid START
 clear START h hN
 generalize r.who few=res at HS ⊢
 go_enter Tryz.func184,Tryz.ntmps184
 go_wp2_with fail
 go_loopw [4,5] (fun v n wr => ∃ (k:Nat) (acc:List ByteArray) (R:Rd),n=.int .i64 k∧k≤N+1∧Hid (RdAt w0 wr g R)∧Hid (wr.ownsRow w.heap.size 9 1 v acc.length (strs acc))∧Hid (w.grownBy wr (some g))∧((R.why=0∧whoT few R.l k acc R.e R.p=res∧Hid (AscB acc)∧acc.length≤12∧k+R.l.length=N)∨(¬ R.why=0∧(acc,R)=res))) (fun _ n _=>N+2 - (intOf n).toNat)
 case atStart =>
  obtain ⟨acc,R,h0,_,hr,hst⟩:=HS.out
  obtain rfl:=List.eq_nil_of_length_eq_zero h0
  refine ⟨0,[],R,rfl,by omega,Lib.hid hr,Lib.hid (World.ownsRow_nil _ _ _ _),Lib.hid (World.grownBy.refl _ _),?_⟩
  rcases hst with ⟨a,b,c,d,e⟩ | h
  ·exact .inl ⟨a,b,Lib.hid c,d,e⟩
  ·exact .inr h
 case round =>
  clear HS
  obtain ⟨k,acc,R,rfl,hk,HR,HO,HG,hst⟩:=hrel
  obtain ⟨ao,ac,rfl⟩:=own_form HO.out
  obtain ⟨rest,e1,p1,y1⟩:=R
  have hbel:=HR.out.below
  obtain ⟨lv,hs,hblk⟩:=HR.out.row
  have c0:=hblk.cell 0 lv rfl
  have c3:=hblk.cell 3 (.int .i64 y1) rfl
  dsimp only at hst hs
  rcases hst with ⟨rfl,hw,hasc,h12,hsum⟩ | ⟨hy,hres⟩
  ·cases rest with
   | nil =>
    obtain ⟨la,lc,rfl⟩:=hs.form
    by_cases hf:(k:Int) < few
    ·have d:decide ((k:Int) < few)=true:=decide_eq_true hf
     have WT:=Lib.hid (show res=(insSB acc emp,⟨[],e1,e1,3⟩) by rw [← hw];unfold whoT;exact if_pos hf)
     clear hs hblk hbel hw hf
     have KD:=Lib.hid (fun W (h:RdAt w0 W g _)=>qkind_pair (take_nil e1 p1 1) w0 W g h)
     go_wp2_with fail
     refine (KD.out _ HR.out).mono ?_
     rintro e2 w2 ⟨rfl,hr2,hg2⟩
     have HO2:=Lib.hid (HO.out.kept hg2 (.inr (fun e=>by have:=(HO.out.lt g e).1;omega)))
     have HR2:=Lib.hid hr2
     have HG2:=Lib.hid (gb_trans HG.out hg2)
     have hws:w.heap.size≤w2.heap.size:=HG2.out.size
     clear hr2 hg2 KD
     go_wp2_with fail
     refine (str_Place _ acc (emp) w2 (Sl.of_own HO2.out).a hasc.out (by omega)).mono ?_
     rintro e3 w3 ⟨⟨kk,rfl,hkk,hpos⟩,rfl⟩
     cases hh:hasB acc (emp) with
     | true =>
      have EI:=Lib.hid (insS_hasB hh)
      clear hh hpos
      go_wp2
      exact ⟨⟨k+1,insSB acc emp,⟨[],e1,e1,3⟩,by go_num,by (try simp only [List.length_cons] at hsum);(try simp only [List.length_nil] at hsum);omega,HR2,by rw [EI.out];exact HO2,HG2,.inr ⟨(show ¬ (3:Int)=0 by decide),by rw [← WT.out]⟩⟩,by simp [intOf];omega⟩
     | false =>
      have EI:=Lib.hid (show insSB acc (emp)=insAtB acc (emp) kk by rw [insS_notB hh,hpos])
      have EL:=Lib.hid (insS_len1 hh)
      have EM:=Lib.hid hh
      have HO3:=Lib.hid (own_below HO2.out ((Below.refl _ _).alloc (Nat.le_refl _) (.cells #[.string (emp)] 9)))
      have INS:=Lib.hid (str_Insert w.heap.size _ acc (emp) kk w3.heap.size (w3.alloc (.cells #[.string (emp)] 9)) HO3.out (by simp;omega) (by omega) hkk (heap_alloc_new _ _) (fun e=>by have:=(HO2.out.lt _ e).2;omega))
      clear hh hpos
      go_wp2_with fail
      refine INS.out.mono ?_
      rintro e4 w4 ⟨a4,c4,rfl,hown4,hg4⟩
      have HR4:=Lib.hid ((HR2.out.alloc (.cells #[.string (emp)] 9)).grown hg4 (fun e=>by have:=(HO2.out.lt g e.symm).1;omega) (fun j e=>by have:=(HO2.out.lt j e).1;omega))
      have HG4:=Lib.hid (gb_far (gb_alloc HG2.out (.cells #[.string (emp)] 9)) hg4 (fun j e=>(HO2.out.lt j e).1))
      have HO4:=Lib.hid (show w4.ownsRow w.heap.size 9 1 (.slice a4 (acc.length+1) c4) (insSB acc (emp)).length (strs (insSB acc (emp))) by rw [EL.out,EI.out];exact hown4)
      clear hown4 hg4 INS
      go_wp2
      exact ⟨⟨k+1,insSB acc emp,⟨[],e1,e1,3⟩,by go_num,by (try simp only [List.length_cons] at hsum);(try simp only [List.length_nil] at hsum);omega,HR4,HO4,HG4,.inr ⟨(show ¬ (3:Int)=0 by decide),by rw [← WT.out]⟩⟩,by simp [intOf];omega⟩
    ·have d:decide ((k:Int) < few)=false:=decide_eq_false hf
     have WT:=Lib.hid (show res=(acc,⟨[],e1,p1,0⟩) by rw [← hw];unfold whoT;exact if_neg hf)
     clear hs hblk hbel hw hf
     go_wp2
     go_ret
     rw [WT.out]
     exact ⟨ao,ac,rfl,HR.out,HO.out,HG.out⟩
   | cons t tl =>
    obtain ⟨b,off,cap,rfl,hc,hm,hlt,hx⟩:=hs.pos (by simp)
    obtain ⟨t0,t1,_⟩:=tk_head (Sl.cells_later hbel hlt hx)
    have hbw:b < wr.heap.size:=Nat.lt_of_lt_of_le hlt hbel.size
    have d1:decide ((0:Int) < (tl.length:Int)+1)=true:=by (rw [decide_eq_true_iff];omega)
    clear hs hblk hbel hx
    by_cases hf:(k:Int) < few
    ·have d:decide ((k:Int) < few)=true:=decide_eq_true hf
     clear hf
     by_cases h1:t.kind=1
     ·by_cases hm12:acc.length=12
      ·have dm:((acc.length:Int) == 12)=true:=by rw [beq_iff_eq];omega
       have CT:=Lib.hid (str_ContainsC _ acc t.tx wr (Sl.of_own HO.out).a)
       have HM12:=Lib.hid hm12
       by_cases hh:hasB acc t.tx=true
       ·have WT:=Lib.hid (show res=whoT few tl (k+1) (insSB acc t.tx) e1 p1 by rw [← hw];show whoT few (t :: tl) k acc e1 p1=_;rw [whoT,if_pos h1,if_neg (fun x=>by rw [hh] at x;cases x.2)])
        rw [hh] at CT
        have HHT:=Lib.hid hh
        have TK:=Lib.hid (take_yes t tl e1 p1 1 h1)
        clear hw hh hm12
        go_wp2_with fail
        refine CT.out.mono ?_
        rintro e0 w00 ⟨rfl,rfl⟩
        have KD:=Lib.hid (fun W (h:RdAt w0 W g _)=>qkind_pair (TK.out) w0 W g h)
        go_wp2_with fail
        refine (KD.out _ HR.out).mono ?_
        rintro e2 w2 ⟨rfl,hr2,hg2⟩
        have HO2:=Lib.hid (HO.out.kept hg2 (.inr (fun e=>by have:=(HO.out.lt g e).1;omega)))
        have HR2:=Lib.hid hr2
        have HG2:=Lib.hid (gb_trans HG.out hg2)
        have hws:w.heap.size≤w2.heap.size:=HG2.out.size
        clear hr2 hg2 KD
        go_wp2_with fail
        refine (str_Place _ acc (t.tx) w2 (Sl.of_own HO2.out).a hasc.out (by omega)).mono ?_
        rintro e3 w3 ⟨⟨kk,rfl,hkk,hpos⟩,rfl⟩
        cases hh:hasB acc (t.tx) with
        | true =>
         have EI:=Lib.hid (insS_hasB hh)
         clear hh hpos
         go_wp2
         exact ⟨⟨k+1,insSB acc t.tx,⟨tl,e1,p1,0⟩,by go_num,by (try simp only [List.length_cons] at hsum);(try simp only [List.length_nil] at hsum);omega,HR2,by rw [EI.out];exact HO2,HG2,.inl ⟨rfl,by rw [← WT.out],by rw [EI.out];exact hasc,by rw [EI.out];exact h12,by (try simp only [List.length_cons] at hsum);(try simp only [List.length_nil] at hsum);(try dsimp only);omega⟩⟩,by simp [intOf];omega⟩
        | false =>
         have EI:=Lib.hid (show insSB acc (t.tx)=insAtB acc (t.tx) kk by rw [insS_notB hh,hpos])
         have EL:=Lib.hid (insS_len1 hh)
         have EM:=Lib.hid hh
         have HO3:=Lib.hid (own_below HO2.out ((Below.refl _ _).alloc (Nat.le_refl _) (.cells #[.string (t.tx)] 9)))
         have INS:=Lib.hid (str_Insert w.heap.size _ acc (t.tx) kk w3.heap.size (w3.alloc (.cells #[.string (t.tx)] 9)) HO3.out (by simp;omega) (by omega) hkk (heap_alloc_new _ _) (fun e=>by have:=(HO2.out.lt _ e).2;omega))
         clear hh hpos
         go_wp2_with fail
         refine INS.out.mono ?_
         rintro e4 w4 ⟨a4,c4,rfl,hown4,hg4⟩
         have HR4:=Lib.hid ((HR2.out.alloc (.cells #[.string (t.tx)] 9)).grown hg4 (fun e=>by have:=(HO2.out.lt g e.symm).1;omega) (fun j e=>by have:=(HO2.out.lt j e).1;omega))
         have HG4:=Lib.hid (gb_far (gb_alloc HG2.out (.cells #[.string (t.tx)] 9)) hg4 (fun j e=>(HO2.out.lt j e).1))
         have HO4:=Lib.hid (show w4.ownsRow w.heap.size 9 1 (.slice a4 (acc.length+1) c4) (insSB acc (t.tx)).length (strs (insSB acc (t.tx))) by rw [EL.out,EI.out];exact hown4)
         clear hown4 hg4 INS
         go_wp2
         exact ⟨⟨k+1,insSB acc t.tx,⟨tl,e1,p1,0⟩,by go_num,by (try simp only [List.length_cons] at hsum);(try simp only [List.length_nil] at hsum);omega,HR4,HO4,HG4,.inl ⟨rfl,by rw [← WT.out],Lib.hid (insS_ascB hasc.out _),by rw [EL.out];have:=EM.out;rw [HHT.out] at this;exact absurd this (by decide),by (try simp only [List.length_cons] at hsum);(try simp only [List.length_nil] at hsum);(try dsimp only);omega⟩⟩,by simp [intOf];omega⟩
       ·have hf:hasB acc t.tx=false:=by simpa using hh
        have WT:=Lib.hid (show res=([],⟨t :: tl,e1,t.col,5⟩) by rw [← hw];show whoT few (t :: tl) k acc e1 p1=_;rw [whoT,if_pos h1,if_pos ⟨hm12,hf⟩])
        rw [hf] at CT
        have FA:=Lib.hid (fun W (h:RdAt w0 W g ⟨t :: tl,e1,p1,0⟩)=>qr_fail ⟨t :: tl,e1,p1,0⟩ w0 W g 5 h)
        rw [failQ_cons] at FA
        clear hw hh hf hm12
        go_wp2_with fail
        refine CT.out.mono ?_
        rintro e0 w00 ⟨rfl,rfl⟩
        go_wp2_with fail
        refine (FA.out _ HR.out).mono ?_
        rintro e2 w2 ⟨rfl,hr2,hg2⟩
        have HR2:=Lib.hid hr2
        have HG2:=Lib.hid (gb_trans HG.out hg2)
        clear hr2 hg2
        go_wp2
        go_ret
        rw [WT.out]
        exact ⟨none,0,rfl,HR2.out,World.ownsRow_nil _ _ _ _,HG2.out⟩
      ·have dm:((acc.length:Int) == 12)=false:=by rw [beq_eq_false_iff_ne];omega
       have WT:=Lib.hid (show res=whoT few tl (k+1) (insSB acc t.tx) e1 p1 by rw [← hw];show whoT few (t :: tl) k acc e1 p1=_;rw [whoT,if_pos h1,if_neg (fun x=>hm12 x.1)])
       have TK:=Lib.hid (take_yes t tl e1 p1 1 h1)
       clear hw
       have KD:=Lib.hid (fun W (h:RdAt w0 W g _)=>qkind_pair (TK.out) w0 W g h)
       go_wp2_with fail
       refine (KD.out _ HR.out).mono ?_
       rintro e2 w2 ⟨rfl,hr2,hg2⟩
       have HO2:=Lib.hid (HO.out.kept hg2 (.inr (fun e=>by have:=(HO.out.lt g e).1;omega)))
       have HR2:=Lib.hid hr2
       have HG2:=Lib.hid (gb_trans HG.out hg2)
       have hws:w.heap.size≤w2.heap.size:=HG2.out.size
       clear hr2 hg2 KD
       go_wp2_with fail
       refine (str_Place _ acc (t.tx) w2 (Sl.of_own HO2.out).a hasc.out (by omega)).mono ?_
       rintro e3 w3 ⟨⟨kk,rfl,hkk,hpos⟩,rfl⟩
       cases hh:hasB acc (t.tx) with
       | true =>
        have EI:=Lib.hid (insS_hasB hh)
        clear hh hpos
        go_wp2
        exact ⟨⟨k+1,insSB acc t.tx,⟨tl,e1,p1,0⟩,by go_num,by (try simp only [List.length_cons] at hsum);(try simp only [List.length_nil] at hsum);omega,HR2,by rw [EI.out];exact HO2,HG2,.inl ⟨rfl,by rw [← WT.out],by rw [EI.out];exact hasc,by rw [EI.out];exact h12,by (try simp only [List.length_cons] at hsum);(try simp only [List.length_nil] at hsum);(try dsimp only);omega⟩⟩,by simp [intOf];omega⟩
       | false =>
        have EI:=Lib.hid (show insSB acc (t.tx)=insAtB acc (t.tx) kk by rw [insS_notB hh,hpos])
        have EL:=Lib.hid (insS_len1 hh)
        have EM:=Lib.hid hh
        have HO3:=Lib.hid (own_below HO2.out ((Below.refl _ _).alloc (Nat.le_refl _) (.cells #[.string (t.tx)] 9)))
        have INS:=Lib.hid (str_Insert w.heap.size _ acc (t.tx) kk w3.heap.size (w3.alloc (.cells #[.string (t.tx)] 9)) HO3.out (by simp;omega) (by omega) hkk (heap_alloc_new _ _) (fun e=>by have:=(HO2.out.lt _ e).2;omega))
        clear hh hpos
        go_wp2_with fail
        refine INS.out.mono ?_
        rintro e4 w4 ⟨a4,c4,rfl,hown4,hg4⟩
        have HR4:=Lib.hid ((HR2.out.alloc (.cells #[.string (t.tx)] 9)).grown hg4 (fun e=>by have:=(HO2.out.lt g e.symm).1;omega) (fun j e=>by have:=(HO2.out.lt j e).1;omega))
        have HG4:=Lib.hid (gb_far (gb_alloc HG2.out (.cells #[.string (t.tx)] 9)) hg4 (fun j e=>(HO2.out.lt j e).1))
        have HO4:=Lib.hid (show w4.ownsRow w.heap.size 9 1 (.slice a4 (acc.length+1) c4) (insSB acc (t.tx)).length (strs (insSB acc (t.tx))) by rw [EL.out,EI.out];exact hown4)
        clear hown4 hg4 INS
        go_wp2
        exact ⟨⟨k+1,insSB acc t.tx,⟨tl,e1,p1,0⟩,by go_num,by (try simp only [List.length_cons] at hsum);(try simp only [List.length_nil] at hsum);omega,HR4,HO4,HG4,.inl ⟨rfl,by rw [← WT.out],Lib.hid (insS_ascB hasc.out _),by rw [EL.out];omega,by (try simp only [List.length_cons] at hsum);(try simp only [List.length_nil] at hsum);(try dsimp only);omega⟩⟩,by simp [intOf];omega⟩
     ·have dk:(t.kind == 1)=false:=by simp [h1]
      have WT:=Lib.hid (show res=(insSB acc emp,⟨t :: tl,e1,t.col,2⟩) by rw [← hw];show whoT few (t :: tl) k acc e1 p1=_;rw [whoT,if_neg h1])
      have TK:=Lib.hid (take_no t tl e1 p1 1 h1)
      clear hw h1
      have KD:=Lib.hid (fun W (h:RdAt w0 W g _)=>qkind_pair (TK.out) w0 W g h)
      go_wp2_with fail
      refine (KD.out _ HR.out).mono ?_
      rintro e2 w2 ⟨rfl,hr2,hg2⟩
      have HO2:=Lib.hid (HO.out.kept hg2 (.inr (fun e=>by have:=(HO.out.lt g e).1;omega)))
      have HR2:=Lib.hid hr2
      have HG2:=Lib.hid (gb_trans HG.out hg2)
      have hws:w.heap.size≤w2.heap.size:=HG2.out.size
      clear hr2 hg2 KD
      go_wp2_with fail
      refine (str_Place _ acc (emp) w2 (Sl.of_own HO2.out).a hasc.out (by omega)).mono ?_
      rintro e3 w3 ⟨⟨kk,rfl,hkk,hpos⟩,rfl⟩
      cases hh:hasB acc (emp) with
      | true =>
       have EI:=Lib.hid (insS_hasB hh)
       clear hh hpos
       go_wp2
       exact ⟨⟨k+1,insSB acc emp,⟨t :: tl,e1,t.col,2⟩,by go_num,by (try simp only [List.length_cons] at hsum);(try simp only [List.length_nil] at hsum);omega,HR2,by rw [EI.out];exact HO2,HG2,.inr ⟨(show ¬ (2:Int)=0 by decide),by rw [← WT.out]⟩⟩,by simp [intOf];omega⟩
      | false =>
       have EI:=Lib.hid (show insSB acc (emp)=insAtB acc (emp) kk by rw [insS_notB hh,hpos])
       have EL:=Lib.hid (insS_len1 hh)
       have EM:=Lib.hid hh
       have HO3:=Lib.hid (own_below HO2.out ((Below.refl _ _).alloc (Nat.le_refl _) (.cells #[.string (emp)] 9)))
       have INS:=Lib.hid (str_Insert w.heap.size _ acc (emp) kk w3.heap.size (w3.alloc (.cells #[.string (emp)] 9)) HO3.out (by simp;omega) (by omega) hkk (heap_alloc_new _ _) (fun e=>by have:=(HO2.out.lt _ e).2;omega))
       clear hh hpos
       go_wp2_with fail
       refine INS.out.mono ?_
       rintro e4 w4 ⟨a4,c4,rfl,hown4,hg4⟩
       have HR4:=Lib.hid ((HR2.out.alloc (.cells #[.string (emp)] 9)).grown hg4 (fun e=>by have:=(HO2.out.lt g e.symm).1;omega) (fun j e=>by have:=(HO2.out.lt j e).1;omega))
       have HG4:=Lib.hid (gb_far (gb_alloc HG2.out (.cells #[.string (emp)] 9)) hg4 (fun j e=>(HO2.out.lt j e).1))
       have HO4:=Lib.hid (show w4.ownsRow w.heap.size 9 1 (.slice a4 (acc.length+1) c4) (insSB acc (emp)).length (strs (insSB acc (emp))) by rw [EL.out,EI.out];exact hown4)
       clear hown4 hg4 INS
       go_wp2
       exact ⟨⟨k+1,insSB acc emp,⟨t :: tl,e1,t.col,2⟩,by go_num,by (try simp only [List.length_cons] at hsum);(try simp only [List.length_nil] at hsum);omega,HR4,HO4,HG4,.inr ⟨(show ¬ (2:Int)=0 by decide),by rw [← WT.out]⟩⟩,by simp [intOf];omega⟩
    ·have d:decide ((k:Int) < few)=false:=decide_eq_false hf
     clear hf
     by_cases h1:t.kind=1
     ·by_cases hm12:acc.length=12
      ·have dm:((acc.length:Int) == 12)=true:=by rw [beq_iff_eq];omega
       have CT:=Lib.hid (str_ContainsC _ acc t.tx wr (Sl.of_own HO.out).a)
       have HM12:=Lib.hid hm12
       by_cases hh:hasB acc t.tx=true
       ·have WT:=Lib.hid (show res=whoT few tl (k+1) (insSB acc t.tx) e1 p1 by rw [← hw];show whoT few (t :: tl) k acc e1 p1=_;rw [whoT,if_pos h1,if_neg (fun x=>by rw [hh] at x;cases x.2)])
        rw [hh] at CT
        have HHT:=Lib.hid hh
        have TK:=Lib.hid (take_yes t tl e1 p1 1 h1)
        clear hw hh hm12
        go_wp2_with fail
        refine CT.out.mono ?_
        rintro e0 w00 ⟨rfl,rfl⟩
        have KD:=Lib.hid (fun W (h:RdAt w0 W g _)=>qkind_pair (TK.out) w0 W g h)
        go_wp2_with fail
        refine (KD.out _ HR.out).mono ?_
        rintro e2 w2 ⟨rfl,hr2,hg2⟩
        have HO2:=Lib.hid (HO.out.kept hg2 (.inr (fun e=>by have:=(HO.out.lt g e).1;omega)))
        have HR2:=Lib.hid hr2
        have HG2:=Lib.hid (gb_trans HG.out hg2)
        have hws:w.heap.size≤w2.heap.size:=HG2.out.size
        clear hr2 hg2 KD
        go_wp2_with fail
        refine (str_Place _ acc (t.tx) w2 (Sl.of_own HO2.out).a hasc.out (by omega)).mono ?_
        rintro e3 w3 ⟨⟨kk,rfl,hkk,hpos⟩,rfl⟩
        cases hh:hasB acc (t.tx) with
        | true =>
         have EI:=Lib.hid (insS_hasB hh)
         clear hh hpos
         go_wp2
         exact ⟨⟨k+1,insSB acc t.tx,⟨tl,e1,p1,0⟩,by go_num,by (try simp only [List.length_cons] at hsum);(try simp only [List.length_nil] at hsum);omega,HR2,by rw [EI.out];exact HO2,HG2,.inl ⟨rfl,by rw [← WT.out],by rw [EI.out];exact hasc,by rw [EI.out];exact h12,by (try simp only [List.length_cons] at hsum);(try simp only [List.length_nil] at hsum);(try dsimp only);omega⟩⟩,by simp [intOf];omega⟩
        | false =>
         have EI:=Lib.hid (show insSB acc (t.tx)=insAtB acc (t.tx) kk by rw [insS_notB hh,hpos])
         have EL:=Lib.hid (insS_len1 hh)
         have EM:=Lib.hid hh
         have HO3:=Lib.hid (own_below HO2.out ((Below.refl _ _).alloc (Nat.le_refl _) (.cells #[.string (t.tx)] 9)))
         have INS:=Lib.hid (str_Insert w.heap.size _ acc (t.tx) kk w3.heap.size (w3.alloc (.cells #[.string (t.tx)] 9)) HO3.out (by simp;omega) (by omega) hkk (heap_alloc_new _ _) (fun e=>by have:=(HO2.out.lt _ e).2;omega))
         clear hh hpos
         go_wp2_with fail
         refine INS.out.mono ?_
         rintro e4 w4 ⟨a4,c4,rfl,hown4,hg4⟩
         have HR4:=Lib.hid ((HR2.out.alloc (.cells #[.string (t.tx)] 9)).grown hg4 (fun e=>by have:=(HO2.out.lt g e.symm).1;omega) (fun j e=>by have:=(HO2.out.lt j e).1;omega))
         have HG4:=Lib.hid (gb_far (gb_alloc HG2.out (.cells #[.string (t.tx)] 9)) hg4 (fun j e=>(HO2.out.lt j e).1))
         have HO4:=Lib.hid (show w4.ownsRow w.heap.size 9 1 (.slice a4 (acc.length+1) c4) (insSB acc (t.tx)).length (strs (insSB acc (t.tx))) by rw [EL.out,EI.out];exact hown4)
         clear hown4 hg4 INS
         go_wp2
         exact ⟨⟨k+1,insSB acc t.tx,⟨tl,e1,p1,0⟩,by go_num,by (try simp only [List.length_cons] at hsum);(try simp only [List.length_nil] at hsum);omega,HR4,HO4,HG4,.inl ⟨rfl,by rw [← WT.out],Lib.hid (insS_ascB hasc.out _),by rw [EL.out];have:=EM.out;rw [HHT.out] at this;exact absurd this (by decide),by (try simp only [List.length_cons] at hsum);(try simp only [List.length_nil] at hsum);(try dsimp only);omega⟩⟩,by simp [intOf];omega⟩
       ·have hf:hasB acc t.tx=false:=by simpa using hh
        have WT:=Lib.hid (show res=([],⟨t :: tl,e1,t.col,5⟩) by rw [← hw];show whoT few (t :: tl) k acc e1 p1=_;rw [whoT,if_pos h1,if_pos ⟨hm12,hf⟩])
        rw [hf] at CT
        have FA:=Lib.hid (fun W (h:RdAt w0 W g ⟨t :: tl,e1,p1,0⟩)=>qr_fail ⟨t :: tl,e1,p1,0⟩ w0 W g 5 h)
        rw [failQ_cons] at FA
        clear hw hh hf hm12
        go_wp2_with fail
        refine CT.out.mono ?_
        rintro e0 w00 ⟨rfl,rfl⟩
        go_wp2_with fail
        refine (FA.out _ HR.out).mono ?_
        rintro e2 w2 ⟨rfl,hr2,hg2⟩
        have HR2:=Lib.hid hr2
        have HG2:=Lib.hid (gb_trans HG.out hg2)
        clear hr2 hg2
        go_wp2
        go_ret
        rw [WT.out]
        exact ⟨none,0,rfl,HR2.out,World.ownsRow_nil _ _ _ _,HG2.out⟩
      ·have dm:((acc.length:Int) == 12)=false:=by rw [beq_eq_false_iff_ne];omega
       have WT:=Lib.hid (show res=whoT few tl (k+1) (insSB acc t.tx) e1 p1 by rw [← hw];show whoT few (t :: tl) k acc e1 p1=_;rw [whoT,if_pos h1,if_neg (fun x=>hm12 x.1)])
       have TK:=Lib.hid (take_yes t tl e1 p1 1 h1)
       clear hw
       have KD:=Lib.hid (fun W (h:RdAt w0 W g _)=>qkind_pair (TK.out) w0 W g h)
       go_wp2_with fail
       refine (KD.out _ HR.out).mono ?_
       rintro e2 w2 ⟨rfl,hr2,hg2⟩
       have HO2:=Lib.hid (HO.out.kept hg2 (.inr (fun e=>by have:=(HO.out.lt g e).1;omega)))
       have HR2:=Lib.hid hr2
       have HG2:=Lib.hid (gb_trans HG.out hg2)
       have hws:w.heap.size≤w2.heap.size:=HG2.out.size
       clear hr2 hg2 KD
       go_wp2_with fail
       refine (str_Place _ acc (t.tx) w2 (Sl.of_own HO2.out).a hasc.out (by omega)).mono ?_
       rintro e3 w3 ⟨⟨kk,rfl,hkk,hpos⟩,rfl⟩
       cases hh:hasB acc (t.tx) with
       | true =>
        have EI:=Lib.hid (insS_hasB hh)
        clear hh hpos
        go_wp2
        exact ⟨⟨k+1,insSB acc t.tx,⟨tl,e1,p1,0⟩,by go_num,by (try simp only [List.length_cons] at hsum);(try simp only [List.length_nil] at hsum);omega,HR2,by rw [EI.out];exact HO2,HG2,.inl ⟨rfl,by rw [← WT.out],by rw [EI.out];exact hasc,by rw [EI.out];exact h12,by (try simp only [List.length_cons] at hsum);(try simp only [List.length_nil] at hsum);(try dsimp only);omega⟩⟩,by simp [intOf];omega⟩
       | false =>
        have EI:=Lib.hid (show insSB acc (t.tx)=insAtB acc (t.tx) kk by rw [insS_notB hh,hpos])
        have EL:=Lib.hid (insS_len1 hh)
        have EM:=Lib.hid hh
        have HO3:=Lib.hid (own_below HO2.out ((Below.refl _ _).alloc (Nat.le_refl _) (.cells #[.string (t.tx)] 9)))
        have INS:=Lib.hid (str_Insert w.heap.size _ acc (t.tx) kk w3.heap.size (w3.alloc (.cells #[.string (t.tx)] 9)) HO3.out (by simp;omega) (by omega) hkk (heap_alloc_new _ _) (fun e=>by have:=(HO2.out.lt _ e).2;omega))
        clear hh hpos
        go_wp2_with fail
        refine INS.out.mono ?_
        rintro e4 w4 ⟨a4,c4,rfl,hown4,hg4⟩
        have HR4:=Lib.hid ((HR2.out.alloc (.cells #[.string (t.tx)] 9)).grown hg4 (fun e=>by have:=(HO2.out.lt g e.symm).1;omega) (fun j e=>by have:=(HO2.out.lt j e).1;omega))
        have HG4:=Lib.hid (gb_far (gb_alloc HG2.out (.cells #[.string (t.tx)] 9)) hg4 (fun j e=>(HO2.out.lt j e).1))
        have HO4:=Lib.hid (show w4.ownsRow w.heap.size 9 1 (.slice a4 (acc.length+1) c4) (insSB acc (t.tx)).length (strs (insSB acc (t.tx))) by rw [EL.out,EI.out];exact hown4)
        clear hown4 hg4 INS
        go_wp2
        exact ⟨⟨k+1,insSB acc t.tx,⟨tl,e1,p1,0⟩,by go_num,by (try simp only [List.length_cons] at hsum);(try simp only [List.length_nil] at hsum);omega,HR4,HO4,HG4,.inl ⟨rfl,by rw [← WT.out],Lib.hid (insS_ascB hasc.out _),by rw [EL.out];omega,by (try simp only [List.length_cons] at hsum);(try simp only [List.length_nil] at hsum);(try dsimp only);omega⟩⟩,by simp [intOf];omega⟩
     ·have dk:(t.kind == 1)=false:=by simp [h1]
      have WT:=Lib.hid (show res=(insSB acc emp,⟨t :: tl,e1,t.col,2⟩) by rw [← hw];show whoT few (t :: tl) k acc e1 p1=_;rw [whoT,if_neg h1])
      have TK:=Lib.hid (take_no t tl e1 p1 1 h1)
      clear hw h1
      have KD:=Lib.hid (fun W (h:RdAt w0 W g _)=>qkind_pair (TK.out) w0 W g h)
      go_wp2_with fail
      refine (KD.out _ HR.out).mono ?_
      rintro e2 w2 ⟨rfl,hr2,hg2⟩
      have HO2:=Lib.hid (HO.out.kept hg2 (.inr (fun e=>by have:=(HO.out.lt g e).1;omega)))
      have HR2:=Lib.hid hr2
      have HG2:=Lib.hid (gb_trans HG.out hg2)
      have hws:w.heap.size≤w2.heap.size:=HG2.out.size
      clear hr2 hg2 KD
      go_wp2_with fail
      refine (str_Place _ acc (emp) w2 (Sl.of_own HO2.out).a hasc.out (by omega)).mono ?_
      rintro e3 w3 ⟨⟨kk,rfl,hkk,hpos⟩,rfl⟩
      cases hh:hasB acc (emp) with
      | true =>
       have EI:=Lib.hid (insS_hasB hh)
       clear hh hpos
       go_wp2
       exact ⟨⟨k+1,insSB acc emp,⟨t :: tl,e1,t.col,2⟩,by go_num,by (try simp only [List.length_cons] at hsum);(try simp only [List.length_nil] at hsum);omega,HR2,by rw [EI.out];exact HO2,HG2,.inr ⟨(show ¬ (2:Int)=0 by decide),by rw [← WT.out]⟩⟩,by simp [intOf];omega⟩
      | false =>
       have EI:=Lib.hid (show insSB acc (emp)=insAtB acc (emp) kk by rw [insS_notB hh,hpos])
       have EL:=Lib.hid (insS_len1 hh)
       have EM:=Lib.hid hh
       have HO3:=Lib.hid (own_below HO2.out ((Below.refl _ _).alloc (Nat.le_refl _) (.cells #[.string (emp)] 9)))
       have INS:=Lib.hid (str_Insert w.heap.size _ acc (emp) kk w3.heap.size (w3.alloc (.cells #[.string (emp)] 9)) HO3.out (by simp;omega) (by omega) hkk (heap_alloc_new _ _) (fun e=>by have:=(HO2.out.lt _ e).2;omega))
       clear hh hpos
       go_wp2_with fail
       refine INS.out.mono ?_
       rintro e4 w4 ⟨a4,c4,rfl,hown4,hg4⟩
       have HR4:=Lib.hid ((HR2.out.alloc (.cells #[.string (emp)] 9)).grown hg4 (fun e=>by have:=(HO2.out.lt g e.symm).1;omega) (fun j e=>by have:=(HO2.out.lt j e).1;omega))
       have HG4:=Lib.hid (gb_far (gb_alloc HG2.out (.cells #[.string (emp)] 9)) hg4 (fun j e=>(HO2.out.lt j e).1))
       have HO4:=Lib.hid (show w4.ownsRow w.heap.size 9 1 (.slice a4 (acc.length+1) c4) (insSB acc (emp)).length (strs (insSB acc (emp))) by rw [EL.out,EI.out];exact hown4)
       clear hown4 hg4 INS
       go_wp2
       exact ⟨⟨k+1,insSB acc emp,⟨t :: tl,e1,t.col,2⟩,by go_num,by (try simp only [List.length_cons] at hsum);(try simp only [List.length_nil] at hsum);omega,HR4,HO4,HG4,.inr ⟨(show ¬ (2:Int)=0 by decide),by rw [← WT.out]⟩⟩,by simp [intOf];omega⟩
  ·have d:(y1 == 0)=false:=by simp [hy]
   clear hs hblk hbel hy
   go_wp2
   go_ret
   rw [← hres]
   exact ⟨ao,ac,rfl,HR.out,HO.out,HG.out⟩
end
section
open Go.RowKit Go.Shelf

theorem own_mono {w:World} {B B' size n:Nat} {e:TypeId} {v:Value} {xs:List Value} (h:w.ownsRow B e size v n xs) (hb:B'≤B):w.ownsRow B' e size v n xs:=by
 refine ⟨h.1,?_⟩
 rcases h.2 with h2 | ⟨g,cap,cur,h1,h2,h3⟩
 ·exact .inl h2
 ·exact .inr ⟨g,cap,cur,h1,Nat.le_trans hb h2,h3⟩
end
section
open Go.RowKit Go.Shelf

abbrev qdv (q:Qd) (v:Value):Value:=.agg #[.int .i64 q.k,.string q.a.o,.string q.a.n,.string q.b.o,.string q.b.n,v]
theorem toks_len:∀ (f:Nat) (l:List UInt8) (p:Nat) (acc:List Tok),(toks f l p acc).1.length≤acc.length+f
 | 0,l,p,acc=>by
  have:toks 0 l p acc=(acc,0,0):=by unfold toks;rfl
  rw [this];simp
 | f+1,[],p,acc=>by rw [toks_nil];simp
 | f+1,c :: r,p,acc=>by
  by_cases hc:c.toNat=32
  ·rw [toks_space _ _ _ _ _ hc];have:=toks_len f r (p+1) acc;omega
  by_cases hk:(oneTok (c :: r) p).kind=0
  ·rw [toks_bad _ _ _ _ _ hc hk];simp
  by_cases hl:8 < (oneTok (c :: r) p).text.length
  ·rw [toks_long _ _ _ _ _ hc hk hl];simp
  ·rw [toks_go _ _ _ _ _ hc hk hl]
   have:=toks_len f ((c :: r).drop (oneTok (c :: r) p).text.length) (p+(oneTok (c :: r) p).text.length) (acc++[oneTok (c :: r) p])
   simp only [List.length_append,List.length_singleton] at this
   omega
theorem tokens_len (l:List UInt8):(tokens l).1.length≤200:=by
 unfold tokens
 split
 ·simp
 ·have h1:=toks_len (bare l).length (bare l) 0 []
  have h2:=bare_le l
  simp only [List.length_nil] at h1
  omega
theorem drop_want (r:Rd) (f:Tok→Bool):(r.want f).2.l.length≤r.l.length:=by
 unfold Rd.want
 split
 ·exact Nat.le_refl _
 ·split
  ·rename_i h;rw [h];simp [Rd.fail,h]
  ·rename_i t l h
   split <;> simp [Rd.drop1,Rd.fail,h]
theorem drop_take (r:Rd) (k:Int):(r.take k).2.l.length≤r.l.length:=by rw [take_want];exact drop_want _ _
theorem drop_role (r:Rd):r.role.2.l.length≤r.l.length:=by
 unfold Rd.role
 exact Nat.le_trans (drop_take _ _) (Nat.le_trans (drop_take _ _) (drop_take _ _))
theorem drop_ask (r:Rd) (u:Bool):(r.ask u).2.l.length≤r.l.length:=by
 unfold Rd.ask
 dsimp only
 split
 ·exact Nat.le_trans (drop_want _ _) (drop_want _ _)
 ·exact drop_want _ _
theorem drop_roleB (r:Rd) (k:Int):(r.roleB k).2.l.length≤r.l.length:=by
 unfold Rd.roleB
 split
 ·exact drop_role _
 ·exact Nat.le_refl _
theorem scan_cutQ (s:ByteArray) (w:World) (hs:s.size < 4294967281) (hg:Gl w) :
  Calls Tryz.prog 91 #[.string s,.string ⟨#[35]⟩] w fun e w' => ∃ (x:ByteArray) (b:Bool),e=.returned (.tuple #[.string ⟨(bare (bl s)).toArray⟩,.string x,.bool b])∧∃ n,w'=w.drewN n:=by
 obtain ⟨m,hm⟩:=hg
 have hcon:=Tryz.strings_Cut s ⟨#[35]⟩ m w hs hm
 rw [show (⟨#[35]⟩:ByteArray).data.toList=[35] from rfl,cut_bare] at hcon
 exact hcon.mono fun e w' ⟨h1,h2⟩=>⟨_,_,h1,h2⟩
theorem qrole_pair {r:Rd} {x:Rl} {r':Rd} (h:r.role=(x,r')) (w0 w:World) (g:Nat) (ha:RdAt w0 w g r) :
  Calls Tryz.prog 182 #[.pointer (some ⟨g,0,none⟩)] w fun e w'=>e=.returned (rv x)∧RdAt w0 w' g r'∧w.grownBy w' (some g):=by
 have:=qr_role r w0 w g ha
 rw [h] at this
 exact this
theorem qask_pair {r:Rd} {u:Bool} {k:Int} {r':Rd} (h:r.ask u=(k,r')) (w0 w:World) (g:Nat) (ha:RdAt w0 w g r) :
  Calls Tryz.prog 183 #[.pointer (some ⟨g,0,none⟩),.bool u] w fun e w'=>e=.returned (.int .i64 k)∧RdAt w0 w' g r'∧w.grownBy w' (some g):=by
 have:=qr_ask r u w0 w g ha
 rw [h] at this
 exact this
theorem qwho_pair {r:Rd} {few:Int} {us:List ByteArray} {r':Rd} (h:r.who few=(us,r')) (w0 w:World) (g:Nat) (ha:RdAt w0 w g r) (hn:r.l.length≤1000) :
  Calls Tryz.prog 184 #[.pointer (some ⟨g,0,none⟩),.int .i64 few] w fun e w' => ∃ a c,e=.returned (.slice a us.length c)∧RdAt w0 w' g r'∧w'.ownsRow w.heap.size 9 1 (.slice a us.length c) us.length (strs us)∧w.grownBy w' (some g):=by
 have:=qr_who r few w0 w g ha hn
 rw [h] at this
 exact this
theorem endQ_fail (t:Tok) (l:List Tok) (e p y:Int) (q:Qd):(Rd.mk (t :: l) e p y).endQ q=(noQd,((Rd.mk (t :: l) e p y).failQ 2).p,((Rd.mk (t :: l) e p y).failQ 2).why)∧¬ ((Rd.mk (t :: l) e p y).failQ 2).why=0:=by
 by_cases hy:y=0
 ·subst hy
  rw [failQ_cons,endQ_cons]
  exact ⟨rfl,(show ¬ (2:Int)=0 by decide)⟩
 ·rw [failQ_why _ _ hy,endQ_why _ _ _ _ _ hy]
  exact ⟨rfl,hy⟩
def ParseO (r:Qd × Int × Int) (w:World) (e:Ending) (w':World):Prop:=∃ v,e=.returned (.tuple #[qdv r.1 v,.int .i64 r.2.1,.int .i64 r.2.2])∧w'.ownsRow w.heap.size 9 1 v r.1.us.length (strs r.1.us)∧Below w.heap.size w w'
set_option maxRecDepth 100000 in
set_option maxHeartbeats 8000000 in
theorem query_ParseO (s:ByteArray) (w:World) (hs:s.size < 4294967281) (hg:Gl w) :
  Calls Tryz.prog 125 #[.string s] w fun e w'=>ParseO (parseQ s) w e w':=by
 have HG:=Lib.hid hg
 have E:=Lib.hid (show parseQ s=parseQT (tokens (bl s)) (endOf s) from rfl)
 have EO:=Lib.hid (show endOf s=((Lib.trimRightB (bare (bl s)) 32).length:Int)+1 from rfl)
 have hcut:=fun (W:World) (h:Gl W)=>scan_cutQ s W hs h
 have HC:=Lib.hid hcut
 have HT:=Lib.hid (fun W=>Tryz.strings_TrimRight_one (⟨(bare (bl s)).toArray⟩) 32 (by decide) W (by simp [ByteArray.size];have:=bare_le (bl s);rw [bl_len] at this;omega))
 have hend:endOf s≤4294967282:=by have:=trimRight_le (bare (bl s)) 32;have:=bare_le (bl s);rw [bl_len] at this;unfold endOf;omega
 have hend0:0≤endOf s:=by unfold endOf;omega
 have HTL:=Lib.hid (tokens_len (bl s))
 generalize hE:endOf s=en at *
 generalize hr:(⟨(Lib.trimRightB (bare (bl s)) 32).toArray⟩:ByteArray)=tr at HT
 have htr:(tr.size:Int)+1=en:=by rw [← hr,← hE];rfl
 clear hr EO hE
 generalize parseQ s=res at E ⊢
 clear hg hcut
 go_enter Tryz.func125,Tryz.ntmps125
 go_wp2_with fail
 refine (scan_Tokens_any s _ (HG.out.below ((Below.refl _ _).alloc (Nat.le_refl _) _)) (by omega)).mono ?_
 rintro e w1 ⟨va,rfl,hown1,hb1⟩
 obtain ⟨sa,sc,rfl⟩:=own_form hown1
 have hsl1:=Lib.hid (Sl.of_own hown1)
 have hG1:=Lib.hid ((HG.out.below ((Below.refl _ _).alloc (Nat.le_refl _) _)).below hb1)
 have HD1:=Lib.hid (keep1 hb1)
 have HBW:=Lib.hid (((Below.refl _ _).alloc (Nat.le_refl _) _).trans (hb1.mono (by simp)):Below w.heap.size w w1)
 clear hown1 hb1
 generalize tokens (bl s)=t at hsl1 E HTL ⊢
 obtain ⟨l,i,y⟩:=t
 dsimp only at hsl1 E HTL ⊢
 have hD1:=HD1.out.2.2
 by_cases hy:y=0
 ·subst hy
  replace E:=Lib.hid (E.out.trans (show parseQT (l,i,0) en=readQ l en from if_neg (fun h=>h rfl)))
  go_wp2_with fail
  refine (HC.out w1 hG1.out).mono ?_
  rintro e w' ⟨x,bb,rfl,n,rfl⟩
  go_wp2_with (go_at_call 155;refine (HT.out _).mono ?_;rintro e w' ⟨rfl,rfl⟩)
  obtain ⟨WX,hWX⟩:∃ W,W=(w1.drewN n).alloc (.cells #[.slice sa l.length sc,.int .i64 en,.int .i64 0,.int .i64 0] 209):=⟨_,rfl⟩
  have hbx:Below w1.heap.size w1 WX:=by rw [hWX];exact (below_of_drewN n).alloc (Nat.le_refl _) _
  have hr0:RdAt w1 WX w1.heap.size ⟨l,en,0,0⟩:=⟨Nat.le_refl _,hbx,_,hsl1.out,by rw [hWX];exact Blk.new (w1.drewN n) _ _⟩
  obtain ⟨WY,hWY⟩:∃ W,W=WX.alloc (.cells #[.string wAlways,.string wCan] 9):=⟨_,rfl⟩
  have hby:Below WX.heap.size WX WY:=by rw [hWY];exact (Below.refl _ _).alloc (Nat.le_refl _) _
  have hWD:=qr_word ⟨l,en,0,0⟩ w1 WY w1.heap.size (.slice (some ⟨WX.heap.size,0,none⟩) 2 2) [wAlways,wCan] (hr0.later hby) (by rw [hWY];exact (Sl.new1 WX [.string wAlways,.string wCan] 9 WX.heap.size 2 rfl rfl (by decide)).a)
  have hxs:WX.heap.size=w1.heap.size+1:=by rw [hWX];simp
  rw [hxs] at hWD
  cases h1:(Rd.mk l en 0 0).word [wAlways,wCan] with | mk s1 r1 =>
  rw [h1] at hWD
  have HWD:=Lib.hid hWD
  clear hWD hr0 hby hbx hxs
  subst hWY
  subst hWX
  go_wp2_with fail
  refine HWD.out.mono ?_
  rintro e w2 ⟨rfl,hr1,hg1⟩
  clear HWD
  have HR1:=Lib.hid hr1
  clear hg1 hr1
  cases h2:r1.role with | mk a r2 =>
  cases h3:r2.ask (decide (s1=wAlways)) with | mk k r3 =>
  cases h4:r3.roleB k with | mk b r4 =>
  cases h5:r4.whoB k with | mk us r5 =>
  have hl4:r4.l.length≤1000:=by
   have e1:=drop_want ⟨l,en,0,0⟩ (wordIn [wAlways,wCan])
   rw [show (Rd.mk l en 0 0).want (wordIn [wAlways,wCan])=(s1,r1) from h1] at e1
   have e2:=drop_role r1
   rw [h2] at e2
   have e3:=drop_ask r2 (decide (s1=wAlways))
   rw [h3] at e3
   have e4:=drop_roleB r3 k
   rw [h4] at e4
   have e5:=HTL.out
   dsimp only at e1 e2 e3 e4
   omega
  obtain ⟨a1,a2⟩:=a
  obtain ⟨b1,b2⟩:=b
  replace E:=Lib.hid (show res=r5.endQ ⟨k,⟨a1,a2⟩,⟨b1,b2⟩,us⟩ by
   rw [E.out]
   unfold readQ midQ tailQ
   rw [h1]
   dsimp only
   rw [h2]
   dsimp only
   rw [h3]
   dsimp only
   rw [h4]
   dsimp only
   rw [h5])
  have R2:=Lib.hid (fun W (h:RdAt w1 W w1.heap.size r1)=>qrole_pair h2 w1 W w1.heap.size h)
  have R3:=Lib.hid (fun W (h:RdAt w1 W w1.heap.size r2)=>qask_pair h3 w1 W w1.heap.size h)
  have H4:=Lib.hid h4
  have H5:=Lib.hid h5
  have hu:(s1.toList == wAlways.toList)=decide (s1=wAlways):=beq_str s1 wAlways
  rw [show wAlways.toList=[97,108,119,97,121,115] from by rw [ByteArray.toList_eq];rfl] at hu
  clear h1 h2 h3 h4 h5
  go_wp2_with fail
  refine (R2.out _ HR1.out).mono ?_
  rintro e w3 ⟨rfl,hr2,_⟩
  have HR:=Lib.hid hr2
  have hlt3:w1.heap.size < w3.heap.size:=hr2.lt
  clear hr2 R2
  go_wp2_with fail
  refine (R3.out _ (HR.out.alloc _)).mono ?_
  rintro e w5 ⟨rfl,hr3,hg3⟩
  have hB5:=(Blk.new w3 #[.int .i64 0,.string a1,.string a2,.string emp,.string emp,.slice none 0 0] 83).grown hg3 (fun e=>by have:=Option.some.inj e;omega)
  have HQ:=Lib.hid hB5
  have HR:=Lib.hid hr3
  obtain ⟨gq,hgq⟩:∃ g,g=w3.heap.size:=⟨_,rfl⟩
  have hgq1:w1.heap.size < gq:=by omega
  rw [← hgq] at HQ hB5 ⊢
  obtain ⟨cb,fb,zb⟩:=hB5
  clear hr3 hg3 R3 hgq hlt3
  go_wp2_with fail
  refine (query_secondB k _).mono ?_
  rintro e w6 ⟨rfl,hw6⟩
  obtain rfl:=hw6
  have HR6:=Lib.hid (HR.out.set (b:=gq) (o:=0) (.int .i64 k) (by omega) (by omega))
  have HQ6:=Lib.hid (HQ.out.set 0 (.int .i64 k) (by simp))
  clear cb fb zb HR HQ
  obtain ⟨W6,hW6⟩:∃ W,W=w5.setCell ⟨gq,0,none⟩ (.int .i64 k):=⟨_,rfl⟩
  rw [← hW6] at HR6 HQ6 ⊢
  clear hW6
  go_upto_if 52 with fail
  go_cut [] (fun wx => ∃ V,V=wx∧Hid (RdAt w1 V w1.heap.size r4)∧Hid (Blk V gq #[.int .i64 k,.string a1,.string a2,.string b1,.string b2,.slice none 0 0]))
  case first =>
   cases hsec:secB k with
   | false =>
    have e4:=H4.out
    unfold Rd.roleB at e4
    rw [if_neg (by rw [hsec];decide)] at e4
    simp only [Prod.mk.injEq,noR,Rl.mk.injEq] at e4
    obtain ⟨⟨rfl,rfl⟩,rfl⟩:=e4
    go_wp2
    go_meet
    exact ⟨_,rfl,HR6,HQ6⟩
   | true =>
    have e4:=H4.out
    unfold Rd.roleB at e4
    rw [if_pos hsec] at e4
    have R4:=Lib.hid (qrole_pair e4 w1 W6 w1.heap.size HR6.out)
    go_wp2_with fail
    refine R4.out.mono ?_
    rintro e w7 ⟨rfl,hr7,hg7⟩
    have hB7:=HQ6.out.grown hg7 (fun e=>by have:=Option.some.inj e;omega)
    have HR7:=Lib.hid ((hr7.set (b:=gq) (o:=3) (.string b1) (by omega) (by omega)).set (b:=gq) (o:=4) (.string b2) (by omega) (by omega))
    have HQ7:=Lib.hid ((hB7.set 3 (.string b1) (by simp)).set 4 (.string b2) (by simp))
    obtain ⟨cb,fb,zb⟩:=hB7
    clear hr7 hg7 R4
    go_wp2
    go_meet
    exact ⟨_,rfl,HR7,HQ7⟩
  case rest =>
  clear HR6 HQ6
  obtain ⟨V,rfl,HR,HQ⟩:=hcut
  obtain ⟨cb,fb,zb⟩:=HQ.out
  go_wp2_with fail
  refine (query_least k _).mono ?_
  rintro e w7 ⟨rfl,hw7⟩
  subst hw7
  go_upto_if 60 with fail
  clear cb fb zb
  go_cut [] (fun wx => ∃ (W:World) (v:Value),W=wx∧Hid (RdAt w1 W w1.heap.size r5)∧Hid (W.ownsRow w7.heap.size 9 1 v us.length (strs us))∧Hid (Blk W gq #[.int .i64 k,.string a1,.string a2,.string b1,.string b2,v]))
  case first =>
   by_cases hl:0≤leastI k
   ·have e5:=H5.out
    unfold Rd.whoB at e5
    rw [if_pos hl] at e5
    have R5:=Lib.hid (qwho_pair e5 w1 w7 w1.heap.size HR.out hl4)
    have dl:decide ((0:Int)≤leastI k)=true:=decide_eq_true hl
    clear e5 H5
    generalize leastI k=lk at *
    go_wp2_with fail
    refine R5.out.mono ?_
    rintro e w8 ⟨av,cv,rfl,hr8,hown8,hg8⟩
    have hB8:=HQ.out.grown hg8 (fun e=>by have:=Option.some.inj e;omega)
    have hq8:=HQ.out.2.2
    have HR8:=Lib.hid (hr8.set (b:=gq) (o:=5) (.slice av us.length cv) (by omega) (by omega))
    have HQ8:=Lib.hid (hB8.set 5 (.slice av us.length cv) (by simp))
    have HO8:=Lib.hid (hown8.kept (gb_setCell (g:=gq) (o:=5) (World.grownBy.refl _ _) (.slice av us.length cv)) (.inr (fun e=>by have:=(hown8.lt gq e).1;omega)))
    obtain ⟨cb,fb,zb⟩:=hB8
    clear hr8 hown8 hg8 R5
    go_wp2
    go_meet
    exact ⟨_,_,rfl,HR8,HO8,HQ8⟩
   ·have e5:=H5.out
    unfold Rd.whoB at e5
    rw [if_neg hl] at e5
    simp only [Prod.mk.injEq] at e5
    obtain ⟨rfl,rfl⟩:=e5
    have dl:decide ((0:Int)≤leastI k)=false:=decide_eq_false hl
    clear H5
    generalize leastI k=lk at *
    go_wp2
    go_meet
    exact ⟨_,_,rfl,HR,Lib.hid (World.ownsRow_nil _ _ _ _),HQ⟩
  case rest =>
  have hq7:=HQ.out.2.2
  have hD7:w.heap.size < w7.heap.size:=Nat.lt_of_lt_of_le hD1 HR.out.below.size
  have HMN:=Lib.hid (Nat.le_of_lt hD7)
  clear HR HQ H4 H5 hl4 hu hG1 HG HC HT HTL
  obtain ⟨V2,vw,rfl,HR,HO,HQ⟩:=hcut
  obtain ⟨ao,ac,rfl⟩:=own_form HO.out
  obtain ⟨l5,e5,p5,y5⟩:=r5
  have hbel:=HR.out.below
  obtain ⟨lv,hs5,hb5⟩:=HR.out.row
  have c0:=hb5.cell 0 lv rfl
  have c3:=hb5.cell 3 (.int .i64 y5) rfl
  dsimp only at hs5
  cases l5 with
  | nil =>
   obtain ⟨la,lc,rfl⟩:=hs5.form
   clear hs5 hb5 hbel
   by_cases hy6:y5=0
   ·subst hy6
    have E:=Lib.hid (E.out.trans (endQ_nil e5 p5 ⟨k,⟨a1,a2⟩,⟨b1,b2⟩,us⟩))
    have HB:=Lib.hid (HBW.out.trans (HR.out.below.mono (Nat.le_of_lt hD1)))
    obtain ⟨cb,fb,zb⟩:=HQ.out
    obtain ⟨ca,fa,za⟩:=HD1.out.below HR.out.below
    go_wp2
    refine bodyPost_ret (v:=.tuple #[qdv ⟨k,⟨a1,a2⟩,⟨b1,b2⟩,us⟩ (.slice ao us.length ac),.int .i64 0,.int .i64 0]) (by simp [results,Tryz.results125,go_sem,ca]) rfl ⟨_,by rw [E.out],?_,?_⟩
    ·rw [E.out]
     refine own_mono (HO.out.kept (row:=some w.heap.size) ?_ (.inr (fun e=>by have:=(HO.out.lt _ e).1;omega))) HMN.out
     repeat' (first | exact World.grownBy.refl _ _ | refine gb_setCell ?_ _)
    ·have hb4:=HB.out
     (repeat' (first | with_reducible exact Below.refl _ _ | with_reducible assumption | with_reducible (refine Below.setCell ?_ ?_ _) | with_reducible (refine Below.alloc ?_ ?_ _) | with_reducible (refine below_drew ?_) | with_reducible (refine below_drewN ?_ _) | with_reducible (refine Below.trans ?_ (Below.mono (by assumption) ?_)) | omega | (simp;done) | (simp;omega)))
   ·have E:=Lib.hid (E.out.trans (endQ_why [] e5 p5 y5 ⟨k,⟨a1,a2⟩,⟨b1,b2⟩,us⟩ hy6))
    clear HQ HO
    obtain ⟨ca,fa,za⟩:=HD1.out.below HR.out.below
    have HB:=Lib.hid (HBW.out.trans (HR.out.below.mono (Nat.le_of_lt hD1)))
    obtain ⟨_,_,lv6,hs6,hb6⟩:=HR.out
    have c2:=hb6.cell 2 (.int .i64 p5) rfl
    have c3:=hb6.cell 3 (.int .i64 y5) rfl
    have f0:=hb6.2.1
    have z0:=hb6.2.2
    have dy:(y5 != 0)=true:=by simp [hy6]
    have dy':(y5 == 0)=false:=by simp [hy6]
    clear hs6 hb6 hy6
    go_wp2_with fail
    go_region
    go_wp2
    refine bodyPost_ret (v:=.tuple #[qdv noQd (.slice none 0 0),.int .i64 p5,.int .i64 y5]) (by simp [results,Tryz.results125,go_sem,ca,noQd,noR]) rfl ⟨_,by rw [E.out],by rw [E.out];exact World.ownsRow_nil _ _ _ _,?_⟩
    have hb4:=HB.out
    (repeat' (first | with_reducible exact Below.refl _ _ | with_reducible assumption | with_reducible (refine Below.setCell ?_ ?_ _) | with_reducible (refine Below.alloc ?_ ?_ _) | with_reducible (refine below_drew ?_) | with_reducible (refine below_drewN ?_ _) | with_reducible (refine Below.trans ?_ (Below.mono (by assumption) ?_)) | omega | (simp;done) | (simp;omega)))
  | cons t tl =>
   obtain ⟨tb,off,cap,rfl,hc,hm,hlt,hx⟩:=hs5.pos (by simp)
   have d1:decide ((0:Int) < (tl.length:Int)+1)=true:=by (rw [decide_eq_true_iff];omega)
   have FA:=Lib.hid (fun W (h:RdAt w1 W w1.heap.size ⟨t :: tl,e5,p5,y5⟩)=>qr_fail ⟨t :: tl,e5,p5,y5⟩ w1 W w1.heap.size 2 h)
   obtain ⟨E1,hy6⟩:=endQ_fail t tl e5 p5 y5 ⟨k,⟨a1,a2⟩,⟨b1,b2⟩,us⟩
   rw [E1] at E
   clear hs5 hb5 hbel hx hc hm hlt E1
   generalize (Rd.mk (t :: tl) e5 p5 y5).failQ 2=r6 at E hy6 FA
   obtain ⟨l6,e6,p6,y6⟩:=r6
   dsimp only at hy6 E
   go_wp2_with fail
   refine (FA.out _ HR.out).mono ?_
   rintro e w9 ⟨rfl,hr9,_⟩
   have HR:=Lib.hid hr9
   clear hr9 FA
   clear HQ HO
   obtain ⟨ca,fa,za⟩:=HD1.out.below HR.out.below
   have HB:=Lib.hid (HBW.out.trans (HR.out.below.mono (Nat.le_of_lt hD1)))
   obtain ⟨_,_,lv6,hs6,hb6⟩:=HR.out
   have c2:=hb6.cell 2 (.int .i64 p6) rfl
   have c3:=hb6.cell 3 (.int .i64 y6) rfl
   have f0:=hb6.2.1
   have z0:=hb6.2.2
   have dy:(y6 != 0)=true:=by simp [hy6]
   have dy':(y6 == 0)=false:=by simp [hy6]
   clear hs6 hb6 hy6
   go_wp2_with fail
   go_region
   go_wp2
   refine bodyPost_ret (v:=.tuple #[qdv noQd (.slice none 0 0),.int .i64 p6,.int .i64 y6]) (by simp [results,Tryz.results125,go_sem,ca,noQd,noR]) rfl ⟨_,by rw [E.out],by rw [E.out];exact World.ownsRow_nil _ _ _ _,?_⟩
   have hb4:=HB.out
   (repeat' (first | with_reducible exact Below.refl _ _ | with_reducible assumption | with_reducible (refine Below.setCell ?_ ?_ _) | with_reducible (refine Below.alloc ?_ ?_ _) | with_reducible (refine below_drew ?_) | with_reducible (refine below_drewN ?_ _) | with_reducible (refine Below.trans ?_ (Below.mono (by assumption) ?_)) | omega | (simp;done) | (simp;omega)))
 ·replace E:=Lib.hid (E.out.trans (show parseQT (l,i,y) en=(noQd,i,y) from if_pos hy))
  have d:(y != 0)=true:=by simp [hy]
  clear hy
  obtain ⟨ca,fa,za⟩:=HD1.out
  go_wp2
  refine bodyPost_ret (v:=.tuple #[qdv noQd (.slice none 0 0),.int .i64 i,.int .i64 y]) (by simp [results,Tryz.results125,go_sem,ca,noQd,noR]) rfl ⟨_,by rw [E.out],by rw [E.out];exact World.ownsRow_nil _ _ _ _,?_⟩
  have hb4:=HBW.out
  (repeat' (first | with_reducible exact Below.refl _ _ | with_reducible assumption | with_reducible (refine Below.setCell ?_ ?_ _) | with_reducible (refine Below.alloc ?_ ?_ _) | with_reducible (refine below_drew ?_) | with_reducible (refine below_drewN ?_ _) | with_reducible (refine Below.trans ?_ (Below.mono (by assumption) ?_)) | omega | (simp;done) | (simp;omega)))
end
section
open Go.RowKit Go.Shelf

def isSl:Value→Bool
 | .slice .. => true
 | _=>false
def BlkS (w:World) (g n:Nat):Prop:=∃ cs:Array Value,Blk w g cs∧cs.size=n∧∀ c∈cs.toList,isSl c=true
theorem cell_far (w:World) (g g' o o':Nat) (v:Value) (h:¬ g=g'):(w.setCell ⟨g,o,none⟩ v).cell? ⟨g',o',none⟩=w.cell? ⟨g',o',none⟩ :=
 World.cell?_setCell_other w ⟨g,o,none⟩ ⟨g',o',none⟩ v (fun e=>h (by injection e))
theorem Blk.put {w:World} {g o:Nat} {cs:Array Value} {v:Value} (h:Blk w g cs) (ho:o < cs.size):Blk (w.setCell ⟨g,o,none⟩ v) g (cs.setIfInBounds o v):=by
 refine ⟨fun i=>?_,fun i=>by simpa using h.2.1 i,by simpa using h.2.2⟩
 by_cases e:i=o
 ·subst e
  rw [World.cell?_setCell_same (u:=cs[i]) _ _ _ (by rw [h.1 i];exact Array.getElem?_eq_getElem ho)]
  simp [ho]
 ·rw [set_far _ _ _ _ _ e,h.1 i,Array.getElem?_setIfInBounds,if_neg (fun h=>e h.symm)]
theorem BlkS.put {w:World} {g n o:Nat} {v:Value} (h:BlkS w g n) (ho:o < n) (hv:isSl v=true):BlkS (w.setCell ⟨g,o,none⟩ v) g n:=by
 obtain ⟨cs,hb,rfl,hc⟩:=h
 refine ⟨_,hb.put ho,by simp,fun c hcm=>?_⟩
 rw [Array.toList_setIfInBounds] at hcm
 rcases List.mem_or_eq_of_mem_set hcm with h | rfl
 ·exact hc c h
 ·exact hv
theorem Sl.set {w:World} {size n g m o:Nat} {v x:Value} {xs:List Value} (h:Sl w size v n xs) (hg:BlkS w g m) (hx:∀ u∈xs,isSl u=false):Sl (w.setCell ⟨g,o,none⟩ x) size v n xs:=by
 obtain ⟨h1,h2,h3⟩:=h
 refine ⟨h1,h2,?_⟩
 rcases h3 with h3 | ⟨b,off,cap,hv,hc,hm,hb,hcell⟩
 ·exact .inl h3
 ·refine .inr ⟨b,off,cap,hv,hc,hm,by simpa using hb,fun j u hu=>?_⟩
  by_cases e:g=b
  ·subst e
   obtain ⟨cs,hbk,_,hcs⟩:=hg
   have h4:=hcell j u hu
   rw [hbk.1] at h4
   have h5:=hcs u (Array.mem_toList_iff.2 (Array.mem_of_getElem? h4))
   rw [hx u (List.mem_of_getElem? hu)] at h5;cases h5
  ·exact (cell_far _ _ _ _ _ _ e).trans (hcell j u hu)
theorem st_noSl (l:List St):∀ u∈l.flatMap St.cells,isSl u=false:=by
 intro u hu
 obtain ⟨x,_,hx⟩:=List.mem_flatMap.1 hu
 simp only [St.cells,List.mem_cons,List.not_mem_nil,or_false] at hx
 rcases hx with rfl | rfl | rfl | rfl | rfl | rfl | rfl | rfl | rfl <;> rfl
theorem rl_noSl (l:List Rl):∀ u∈l.flatMap Rl.cells,isSl u=false:=by
 intro u hu
 obtain ⟨x,_,hx⟩:=List.mem_flatMap.1 hu
 simp only [Rl.cells,List.mem_cons,List.not_mem_nil,or_false] at hx
 rcases hx with rfl | rfl <;> rfl
theorem below_put {n g o:Nat} {w w':World} {v:Value} (h:Below n w w') (hg:n≤g):Below n w (w'.setCell ⟨g,o,none⟩ v) :=
 ⟨h.os,h.tape,h.output,by simpa [World.setCell] using h.size,fun k hk=>(Below.heap_setCell _ _ _ _ (by dsimp only;omega)).trans (h.block k hk)⟩
def puts (w:World) (g:Nat):Nat→List Value→World
 | _,[]=>w
 | o,v :: vs=>puts (w.setCell ⟨g,o,none⟩ v) g (o+1) vs
theorem BlkS.puts {g n:Nat}:∀ (vs:List Value) (o:Nat) (w:World),BlkS w g n→o+vs.length≤n→(∀ v∈vs,isSl v=true)→BlkS (puts w g o vs) g n
 | [],_,_,h,_,_=>h
 | v :: vs,o,w,h,ho,hv=>by
  rw [List.length_cons] at ho
  exact BlkS.puts vs (o+1) _ (h.put (by omega) (hv v (by simp))) (by omega) (fun x hx=>hv x (by simp [hx]))
theorem Sl.puts {size n g m:Nat} {v:Value} {xs:List Value} (hx:∀ u∈xs,isSl u=false):∀ (vs:List Value) (o:Nat) (w:World),Sl w size v n xs→BlkS w g m→o+vs.length≤m→(∀ v∈vs,isSl v=true)→Sl (puts w g o vs) size v n xs
 | [],_,_,h,_,_,_=>h
 | y :: vs,o,w,h,hg,ho,hv=>by
  rw [List.length_cons] at ho
  exact Sl.puts hx vs (o+1) _ (h.set hg hx) (hg.put (by omega) (hv y (by simp))) (by omega) (fun x hx=>hv x (by simp [hx]))
theorem below_puts {n g:Nat} {w0:World} (hg:n≤g):∀ (vs:List Value) (o:Nat) (w:World),Below n w0 w→Below n w0 (puts w g o vs)
 | [],_,_,h=>h
 | _ :: vs,o,_,h=>below_puts hg vs (o+1) _ (below_put h hg)
end
section
open Go.RowKit Go.Shelf

end
section
open Go.RowKit Go.Shelf

end
section
open Go.RowKit Go.Shelf

end
section
open Go.RowKit Go.Shelf

def turned (y r:Ru):Prop:=y=r∨(r.k=4∧y.a=r.b∧y.b=r.a∧y.h=r.h)
end
section
open Go.RowKit Go.Shelf

end
section
open Go.RowKit Go.Shelf

end
end Go.Proofs.YtomhekohcadijaaGreatDoor
