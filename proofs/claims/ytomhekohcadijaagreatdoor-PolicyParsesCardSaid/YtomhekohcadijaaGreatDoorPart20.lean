/- Parts: LinesRef PolRefParse PolSame StrEq QSame PolSameQ PolSameD Law05P OpenSyn -/
import Derived.Test.YtomhekohcadijaaGreatDoorPart9
import Derived.Test.YtomhekohcadijaaGreatDoorPart3
import Derived.Test.YtomhekohcadijaaGreatDoorPart6
import Derived.Lib.TrimByte
import Derived.Test.YtomhekohcadijaaGreatDoorPart19
import Derived.Test.YtomhekohcadijaaGreatDoorPart15
import Derived.Test.YtomhekohcadijaaGreatDoorPart12
import Derived.Test.YtomhekohcadijaaGreatDoorPart7
import Derived.Test.YtomhekohcadijaaGreatDoorPart13
import Derived.Test.YtomhekohcadijaaGreatDoorPart11
import Derived.Test.YtomhekohcadijaaGreatDoorPart16
import Derived.ProofKit
import Derived.OpenShut
import Derived.ChangeMaps5
import Derived.Deep.Strs
namespace Go.Proofs.YtomhekohcadijaaGreatDoor
section
open Go.RowKit Go.Shelf

set_option maxRecDepth 100000 in
set_option maxHeartbeats 4000000 in
theorem ref2_Lines (s:ByteArray) (w:World) (hs:s.size≤1000000) :
  Calls Tryz.prog 69 #[.string s] w fun e w' => ∃ v,e=.returned v∧w'.ownsRow w.heap.size 9 1 v (linesB s).length (strs (linesB s))∧Below w.heap.size w w':=by
 have E:=Lib.hid (show linesB s=(linesP (bl s)).map lineB from rfl)
 generalize linesB s=res at *
 go_enter Tryz.func69,Tryz.ntmps69
 go_wp2_with fail
 go_loopw [3,4,5] (fun vo vf vi wr => ∃ (D:List (List UInt8 × Bool)) (f i:Nat),vf=.int .i64 f∧vi=.int .i64 i∧f≤i∧i≤s.size∧D.length≤i∧Hid (linesP (bl s)=D++linesP ((bl s).drop f))∧Hid (∀ k,f≤k→k < i→(bl s)[k]? ≠ some 10)∧Hid (wr.ownsRow w.heap.size 9 1 vo D.length (strs (D.map lineB)))∧Hid (Below w.heap.size w wr)) (fun _ _ vi _=>s.size - (intOf vi).toNat)
 case atStart=>exact ⟨[],0,0,rfl,rfl,Nat.le_refl _,Nat.zero_le _,Nat.le_refl _,Lib.hid (by simp),Lib.hid (fun k _ h=>by omega),Lib.hid (World.ownsRow_nil _ _ _ _),Lib.hid (Below.refl _ _)⟩
 case round =>
  obtain ⟨D,f,i,rfl,rfl,hfi,his,hDi,HL,HN,HO,HB⟩:=hrel
  obtain ⟨a,c,rfl⟩:=own_form HO.out
  have hsz:w.heap.size≤wr.heap.size:=HB.out.size
  by_cases hlt:i < s.size
  ·have hat:=bl_at s 0 i (by omega)
   simp only [List.drop_zero,Nat.zero_add] at hat
   by_cases h10:s[i].toNat=10
   ·have b10:((s[i].toNat:Int) == 10)=true:=by rw [beq_iff_eq];omega
    have e10:s[i]=10:=UInt8.toNat_inj.1 h10
    have hst:=lines_at ((bl s).drop f) (i - f) (fun k hk=>by rw [List.getElem?_drop];exact HN.out (f+k) (by omega) (by omega)) (by rw [List.getElem?_drop,show f+(i - f)=i by omega,hat,e10])
    have hx:lineB (((bl s).drop f).take (i - f),true)=s.extract f i:=bl_inj.1 (by rw [bl_extract,List.drop_take];rfl)
    have HL2:=Lib.hid (show linesP (bl s)=(D++[(((bl s).drop f).take (i - f),true)])++linesP ((bl s).drop (i+1)) by
     rw [HL.out,hst,List.drop_drop,show f+(i - f+1)=i+1 by omega];simp)
    have HR:=Lib.hid (show strs ((D++[(((bl s).drop f).take (i - f),true)]).map lineB)=strs (D.map lineB)++[.string (s.extract f i)] by rw [List.map_append,List.map_cons,List.map_nil,hx];simp [strs])
    have hdl:(D++[(((bl s).drop f).take (i - f),true)]).length=D.length+1:=by simp
    have d1:(f:Int)≤(i:Int):=by omega
    have d2:(i:Int)≤(s.size:Int):=by omega
    generalize D++[(((bl s).drop f).take (i - f),true)]=D2 at *
    clear hat h10 e10 hst hx HL HN
    go_wp2_with (at_builtin;refine halt_ ?_)
    unfold Halt_
    refine app_own Tryz.underlying27 str_info rfl (by decide) (by decide) rfl _ _ rfl w.heap.size rfl (HO.out.alloc _) [.string (s.extract f i)] rfl (heap_new1 _ _) rfl (str1 _) (by omega) (by simp;omega) ?_
    intro a8 c8 w8 hown8 hg8
    have HB8:=Lib.hid (below_own (HB.out.alloc hsz _) (HO.out.alloc _) hg8 (by simp;omega) (Nat.le_refl _))
    have HO8:=Lib.hid (show w8.ownsRow w.heap.size 9 1 (.slice a8 (D.length+1) c8) D2.length (strs (D2.map lineB)) by rw [hdl,HR.out];exact hown8)
    clear hown8 hg8
    go_wp2_with fail
    exact ⟨⟨D2,i+1,i+1,by go_num,by go_num,Nat.le_refl _,by omega,by omega,HL2,Lib.hid (fun k h1 h2=>by omega),HO8,HB8⟩,by simp [intOf];omega⟩
   ·have b10:((s[i].toNat:Int) == 10)=false:=by rw [beq_eq_false_iff_ne];omega
    have HN2:=Lib.hid (show ∀ k,f≤k→k < i+1→(bl s)[k]? ≠ some 10 from fun k h1 h2=>by
     by_cases hk:k < i
     ·exact HN.out k h1 hk
     ·obtain rfl:k=i:=by omega
      rw [hat]
      intro e
      exact h10 (by rw [Option.some.inj e];rfl))
    clear hat h10 HN
    go_wp2_with fail
    exact ⟨⟨D,f,i+1,rfl,by go_num,by omega,by omega,by omega,HL,HN2,HO,HB⟩,by simp [intOf];omega⟩
  ·obtain rfl:i=s.size:=by omega
   by_cases hf:f < s.size
   ·have hne:(bl s).drop f≠[]:=fun e=>by have:=congrArg List.length e;rw [List.length_drop,bl_len,List.length_nil] at this;omega
    have hst:=lines_end ((bl s).drop f) (fun k=>by
     rw [List.getElem?_drop]
     by_cases hk:f+k < s.size
     ·exact HN.out (f+k) (by omega) hk
     ·rw [List.getElem?_eq_none (by rw [bl_len];omega)];exact fun e=>by cases e) hne
    have hx:lineB ((bl s).drop f,false)=s.extract f s.size:=bl_inj.1 (by rw [ssub];rfl)
    have HR:=Lib.hid (show strs res=strs (D.map lineB)++[.string (s.extract f s.size)] by rw [E.out,HL.out,hst,List.map_append,List.map_cons,List.map_nil,hx];simp [strs])
    have hrl:res.length=D.length+1:=by rw [E.out,HL.out,hst];simp
    have d1:(f:Int)≤(s.size:Int):=by omega
    clear hne hst hx HL HN E
    go_wp2_with (at_builtin;refine halt_ ?_)
    unfold Halt_
    refine app_own Tryz.underlying27 str_info rfl (by decide) (by decide) rfl _ _ rfl w.heap.size rfl (HO.out.alloc _) [.string (s.extract f s.size)] rfl (heap_new1 _ _) rfl (str1 _) (by omega) (by simp;omega) ?_
    intro a8 c8 w8 hown8 hg8
    have HB8:=Lib.hid (below_own (HB.out.alloc hsz _) (HO.out.alloc _) hg8 (by simp;omega) (Nat.le_refl _))
    have HO8:=Lib.hid (show w8.ownsRow w.heap.size 9 1 (.slice a8 (D.length+1) c8) res.length (strs res) by rw [hrl,HR.out];exact hown8)
    clear hown8 hg8
    go_wp2
    go_ret
    exact ⟨_,rfl,HO8.out,HB8.out⟩
   ·have HR:=Lib.hid (show res=D.map lineB by rw [E.out,HL.out,List.drop_eq_nil_of_le (by rw [bl_len];omega)];simp [linesP])
    have hrl:res.length=D.length:=by rw [HR.out,List.length_map]
    clear HL HN E
    go_wp2_with fail
    go_ret
    exact ⟨_,rfl,by rw [hrl,HR.out];exact HO.out,HB.out⟩
end
section
open Go.RowKit Go.Shelf

def NoStr (cs:Array Value):Prop:=∀ c∈cs.toList,∀ s:ByteArray,c≠Value.string s
theorem noStr_set {cs:Array Value} {o:Nat} {v:Value} (h:NoStr cs) (hv:∀ s,v≠Value.string s):NoStr (cs.setIfInBounds o v):=by
 intro c hc
 rw [Array.toList_setIfInBounds] at hc
 rcases List.mem_or_eq_of_mem_set hc with hc | rfl
 ·exact h c hc
 ·exact hv
theorem Sl.far {w:World} {size n g o:Nat} {v x:Value} {xs:List Value} {cs:Array Value} (h:Sl w size v n xs) (hg:Blk w g cs) (hcs:NoStr cs) (hx:0 < n→∃ (j:Nat) (s:ByteArray),xs[j]? = some (Value.string s)):Sl (w.setCell ⟨g,o,none⟩ x) size v n xs:=by
 rcases h.2.2 with h0 | ⟨b,off,cap,hv,hc,hm,hb,hcell⟩
 ·exact ⟨h.1,h.2.1,.inl h0⟩
 ·refine ⟨h.1,h.2.1,.inr ⟨b,off,cap,hv,hc,hm,by simpa [World.setCell] using hb,fun j u hu=>?_⟩⟩
  by_cases h0:0 < n
  ·obtain ⟨k,s,hk⟩:=hx h0
   have hne:¬ g=b:=by
    rintro rfl
    have h1:=hcell k _ hk
    rw [hg.1] at h1
    exact hcs _ (List.mem_of_getElem? (by rw [← Array.getElem?_toList] at h1;exact h1)) s rfl
   rw [cell_far _ _ _ _ _ _ hne]
   exact hcell j u hu
  ·have:xs.length=0:=by rw [h.1,show n=0 by omega];simp
   rw [List.eq_nil_of_length_eq_zero this] at hu
   simp at hu
theorem SlA.far {w:World} {size n g o:Nat} {v x:Value} {xs:List Value} {cs:Array Value} (h:SlA w size v n xs) (hg:Blk w g cs) (hcs:NoStr cs) (hx:0 < n→∃ (j:Nat) (s:ByteArray),xs[j]? = some (Value.string s)):SlA (w.setCell ⟨g,o,none⟩ x) size v n xs:=by
 rcases h with h | h
 ·exact .inl (h.far hg hcs hx)
 ·exact .inr h
theorem PolD.far {w:World} {g o:Nat} {x:Value} {cs:Array Value} {v0 v1 v2 v3:Value} {p:Pd} {zs:List (Qd × Value)} (h:PolD w v0 v1 v2 v3 p zs) (hg:Blk w g cs) (hcs:NoStr cs):PolD (w.setCell ⟨g,o,none⟩ x) v0 v1 v2 v3 p zs:=by
 refine ⟨h.z,h.rs.far hg hcs (fun h0=>?_),h.rg.far hg hcs (fun h0=>?_),h.rh.far hg hcs (fun h0=>?_),h.rq.far hg hcs (fun h0=>?_),fun z hz=>(h.rw z hz).far hg hcs (fun h0=>?_)⟩
 ·cases hl:p.l with
  | nil=>rw [hl] at h0;exact absurd h0 (by simp)
  | cons y l=>exact ⟨1,y.h.o,rfl⟩
 ·cases hl:p.g with
  | nil=>rw [hl] at h0;exact absurd h0 (by simp)
  | cons y l=>exact ⟨0,y.o,rfl⟩
 ·cases hl:p.h with
  | nil=>rw [hl] at h0;exact absurd h0 (by simp)
  | cons y l=>exact ⟨0,y.o,rfl⟩
 ·cases hl:zs with
  | nil=>rw [hl] at h0;exact absurd h0 (by simp)
  | cons y l=>exact ⟨1,(qz y).a.o,rfl⟩
 ·cases hl:z.1.us with
  | nil=>rw [hl] at h0;exact absurd h0 (by simp)
  | cons y l=>exact ⟨0,y,rfl⟩
theorem PolD.farB {w:World} {g o:Nat} {x:Value} {cs:Array Value} {v0 v1 v2 v3:Value} {p:Pd} {zs:List (Qd × Value)} (h:PolD w v0 v1 v2 v3 p zs∧Blk w g cs∧NoStr cs) (ho:o < cs.size) (hv:∀ s,x≠Value.string s) :
  PolD (w.setCell ⟨g,o,none⟩ x) v0 v1 v2 v3 p zs∧Blk (w.setCell ⟨g,o,none⟩ x) g (cs.setIfInBounds o x)∧NoStr (cs.setIfInBounds o x) :=
 ⟨h.1.far h.2.1 h.2.2,h.2.1.put ho,noStr_set h.2.2 hv⟩
def ParseD (r:Pd × Int × Int × Int) (w:World) (e:Ending) (w':World):Prop:=∃ v0 v1 v2 v3 zs,e=.returned (.tuple #[pv v0 v1 v2 v3,.agg #[.int .i64 r.2.1,.int .i64 r.2.2.1,.int .i64 r.2.2.2]])∧PolD w' v0 v1 v2 v3 r.1 zs∧Below w.heap.size w w'
theorem PolD.nil (w:World):PolD w nilV nilV nilV nilV noPd []:=(PolO.nil 0 w).pol
theorem noStr4 {x0 x1 x2 x3:Value} (h0:isSl x0=true) (h1:isSl x1=true) (h2:isSl x2=true) (h3:isSl x3=true):NoStr #[x0,x1,x2,x3]:=by
 intro c hc s e
 subst e
 simp only [List.mem_cons,List.not_mem_nil,or_false] at hc
 rcases hc with rfl | rfl | rfl | rfl
 ·cases h0
 ·cases h1
 ·cases h2
 ·cases h3
theorem noStr3 (a b c:Int):NoStr #[.int .i64 a,.int .i64 b,.int .i64 c]:=by
 intro c hc s e
 subst e
 simp at hc
structure RefW (w:World) (L:List ByteArray) (vL v0 v1 v2 v3:Value) (wr:World):Prop where
 low:Below w.heap.size w wr
 b0:Blk wr w.heap.size #[nilV,nilV,nilV,nilV]
 b1:Blk wr (w.heap.size+1) #[.int .i64 0,.int .i64 0,.int .i64 0]
 b2:Blk wr (w.heap.size+1+1) #[v0,v1,v2,v3]
 row:wr.ownsRow (w.heap.size+1+1+1) 9 1 vL L.length (strs L)
theorem RefW.below {w wr w':World} {L:List ByteArray} {vL v0 v1 v2 v3:Value} (h:RefW w L vL v0 v1 v2 v3 wr) (hb:Below wr.heap.size wr w'):RefW w L vL v0 v1 v2 v3 w' :=
 ⟨h.low.trans (hb.mono h.low.size),h.b0.below hb,h.b1.below hb,h.b2.below hb,own_below h.row hb⟩
set_option maxRecDepth 100000 in
set_option maxHeartbeats 4000000 in
theorem ref5_Parse (s:ByteArray) (w:World) (hs:s.size≤9223372036854775807):Calls Tryz.prog 25 #[.string s] w fun e w'=>ParseD (parseP s) w e w':=by
 by_cases h8:8000 < s.size
 ·have d:decide ((8000:Int) < (s.size:Int))=true:=by (rw [decide_eq_true_iff];omega)
  have E:=Lib.hid (show parseP s=(noPd,4,0,0) from if_pos h8)
  have HT:=TwoAt.new w #[nilV,nilV,nilV,nilV] #[.int .i64 0,.int .i64 0,.int .i64 0] 26 48
  obtain ⟨ca,fa,za⟩:=HT.a
  obtain ⟨cb,fb,zb⟩:=HT.b
  clear h8
  go_enter Tryz.func25,Tryz.ntmps25
  go_wp2
  refine bodyPost_ret (v:=.tuple #[pv nilV nilV nilV nilV,.agg #[.int .i64 4,.int .i64 0,.int .i64 0]]) (by simp [results,Tryz.results25,go_sem]) rfl ?_
  refine ⟨nilV,nilV,nilV,nilV,[],by rw [E.out],by rw [E.out];exact PolD.nil _,?_⟩
  have hb4:=Below.refl w.heap.size w
  (repeat' (first | with_reducible exact Below.refl _ _ | with_reducible assumption | with_reducible (refine Below.setCell ?_ ?_ _) | with_reducible (refine Below.alloc ?_ ?_ _) | with_reducible (refine below_drew ?_) | with_reducible (refine below_drewN ?_ _) | with_reducible (refine Below.trans ?_ (Below.mono (by assumption) ?_)) | omega | (simp;done) | (simp;omega)))
 ·have d:decide ((8000:Int) < (s.size:Int))=false:=by (rw [decide_eq_false_iff_not];omega)
  have E:=Lib.hid (show parseP s=goP noPd 0 (linesB s) from if_neg h8)
  have HLS:=Lib.hid (linesB_size s)
  obtain ⟨WA,hWA⟩:∃ W,W=((w.alloc (.cells #[nilV,nilV,nilV,nilV] 26)).alloc (.cells #[.int .i64 0,.int .i64 0,.int .i64 0] 48)).alloc (.cells #[nilV,nilV,nilV,nilV] 26):=⟨_,rfl⟩
  have hbA:Below w.heap.size w WA:=by rw [hWA];exact (((Below.refl _ _).alloc (Nat.le_refl _) _).alloc (by simp) _).alloc (by simp;omega) _
  have hzA:WA.heap.size=w.heap.size+1+1+1:=by rw [hWA];simp
  have SL:=Lib.hid (ref2_Lines s WA (by omega))
  generalize parseP s=res at E ⊢
  have hLn:(linesB s).length≤8000:=Nat.le_trans (linesB_len s) (by omega)
  generalize linesB s=L at E HLS SL hLn
  have H0:=Lib.hid (show Blk WA w.heap.size #[nilV,nilV,nilV,nilV] from by
   rw [hWA];exact ((Blk.new w _ _).alloc _).alloc _)
  have H1:=Lib.hid (show Blk WA (w.heap.size+1) #[.int .i64 0,.int .i64 0,.int .i64 0] from by
   rw [hWA];have h:=(Blk.new (w.alloc (.cells #[nilV,nilV,nilV,nilV] 26)) #[.int .i64 0,.int .i64 0,.int .i64 0] 48).alloc (.cells #[nilV,nilV,nilV,nilV] 26);simpa using h)
  have H2:=Lib.hid (show Blk WA (w.heap.size+1+1) #[nilV,nilV,nilV,nilV] from by
   rw [hWA];have h:=Blk.new ((w.alloc (.cells #[nilV,nilV,nilV,nilV] 26)).alloc (.cells #[.int .i64 0,.int .i64 0,.int .i64 0] 48)) #[nilV,nilV,nilV,nilV] 26;simpa using h)
  have HBA:=Lib.hid hbA
  have hs8:s.size≤8000:=by omega
  clear h8 hbA
  go_enter Tryz.func25,Tryz.ntmps25
  go_wp2_with fail
  rw [← hWA]
  clear hWA
  refine SL.out.mono ?_
  rintro e w1 ⟨vL,rfl,hol,hb1⟩
  obtain ⟨la,lc,rfl⟩:=own_form hol
  rw [hzA] at hol
  have HPW:=Lib.hid (show RefW w L (.slice la L.length lc) nilV nilV nilV nilV w1 from ⟨HBA.out.trans (hb1.mono HBA.out.size),H0.out.below hb1,H1.out.below hb1,H2.out.below hb1,hol⟩)
  have HMP:=Lib.hid (PolD.nil w1)
  clear hol hb1 H0 H1 H2 HBA hzA SL
  go_wp2_with fail
  go_loopw [18] (fun i wr => ∃ (k:Nat) (p:Pd) (v0 v1 v2 v3:Value) (zs:List (Qd × Value)),k≤L.length∧i=.int .i64 k∧Hid (PolD wr v0 v1 v2 v3 p zs)∧Hid (OkP p)∧Hid (fitsD p=true)∧Hid (RefW w L (.slice la L.length lc) v0 v1 v2 v3 wr)∧Hid (res=goP p k (L.drop k))) (fun i _=>L.length - (intOf i).toNat)
  case atStart=>exact ⟨0,noPd,_,_,_,_,[],by omega,rfl,HMP,Lib.hid okP_no,Lib.hid fits_noP,HPW,E⟩
  case round =>
   obtain ⟨k,p,v0,v1,v2,v3,zs,hk,rfl,HM,HO,HF,HP,HE⟩:=hrel
   obtain ⟨a0,c0,rfl⟩:=HM.out.rs.form
   obtain ⟨a1,c1,rfl⟩:=HM.out.rg.form
   obtain ⟨a2,c2,rfl⟩:=HM.out.rh.form
   obtain ⟨a3,c3,rfl⟩:=HM.out.rq.form
   obtain ⟨cc,fc,zc⟩:=HP.out.b2
   by_cases hlt:k < L.length
   ·obtain ⟨b3,o3,c3',he3,hc3,hm3,hb3,hx3⟩:=(Sl.of_own HP.out.row).pos (by omega)
    simp only [Value.slice.injEq,true_and] at he3
    obtain ⟨rfl,rfl⟩:=he3
    have p3:=hx3 k _ (strs_get hlt)
    have HN:=Lib.hid (HE.out.trans ((congrArg (goP p k) (List.drop_eq_getElem_cons hlt)).trans (goP_step p k L[k] _)))
    have hym:L[k].size≤8000:=Nat.le_trans (HLS.out _ (List.getElem_mem hlt)) hs8
    obtain ⟨f0,f1,f2,f3⟩:=fits_few HF.out
    have ML:=Lib.hid (ref5_line L[k] _ _ _ _ p zs wr HM.out (by omega) (by omega) (by omega) (by omega) (by omega))
    have HOK:=Lib.hid (fun (h:(lineP p L[k]).2.2=0)=>lineP_ok HO.out h)
    have HLE:=Lib.hid (lineP_len p L[k])
    have hw1:IntKind.i64.wrap ((k:Int)+1)=(k:Int)+1:=Go.IntWalk.i64_in _ (by omega)
    clear hx3 HE
    generalize L[k]=y at *
    generalize lineP p y=Y at HN ML HOK HLE
    go_wp2_with fail
    clear cc fc zc
    refine ML.out.mono ?_
    rintro e w2 ⟨u0,u1,u2,u3,us,rfl,⟨⟨U0,N0,V0,rfl⟩,⟨U1,N1,V1,rfl⟩,⟨U2,N2,V2,rfl⟩,U3,N3,V3,rfl⟩,hpd,hb2⟩
    have HP2:=Lib.hid (HP.out.below hb2)
    have HPD:=Lib.hid hpd
    obtain ⟨Y1,at0,y0⟩:=Y
    dsimp only at HN HPD HOK HLE ⊢
    clear hb2 hpd ML HM HP
    by_cases hy:y0=0
    ·subst hy
     have hm2:=HPD.out rfl
     obtain ⟨A0,C0,h0⟩:=hm2.rs.form
     obtain ⟨A1,C1,h1⟩:=hm2.rg.form
     obtain ⟨A2,C2,h2⟩:=hm2.rh.form
     obtain ⟨A3,C3,h3⟩:=hm2.rq.form
     rw [h0,h1,h2,h3] at hm2 ⊢
     have HM2:=Lib.hid hm2
     clear hm2 h0 h1 h2 h3
     have HO2:=Lib.hid (HOK.out rfl)
     have HZ0:=Lib.hid (show us.length=Y1.q.length by rw [← HM2.out.z,List.length_map])
     obtain ⟨cc,fc,zc⟩:=HP2.out.b2
     clear HPD HOK
     go_wp2_with fail
     clear cc fc zc
     have hfar:=(PolD.farB (o:=3) (x:=.slice A3 us.length C3) (PolD.farB (o:=2) (x:=.slice A2 Y1.h.length C2) (PolD.farB (o:=1) (x:=.slice A1 Y1.g.length C1) (PolD.farB (o:=0) (x:=.slice A0 Y1.l.length C0) ⟨HM2.out,HP2.out.b2,noStr4 rfl rfl rfl rfl⟩ (by simp) (fun s e=>by cases e)) (by simp) (fun s e=>by cases e)) (by simp) (fun s e=>by cases e)) (by simp) (fun s e=>by cases e))
     have hpn:RefW w L (.slice (some ⟨b3,o3,none⟩) L.length lc) (.slice A0 Y1.l.length C0) (.slice A1 Y1.g.length C1) (.slice A2 Y1.h.length C2) (.slice A3 us.length C3) ((((w2.setCell ⟨w.heap.size+1+1,0,none⟩ (.slice A0 Y1.l.length C0)).setCell ⟨w.heap.size+1+1,1,none⟩ (.slice A1 Y1.g.length C1)).setCell ⟨w.heap.size+1+1,2,none⟩ (.slice A2 Y1.h.length C2)).setCell ⟨w.heap.size+1+1,3,none⟩ (.slice A3 us.length C3)):=⟨((((HP2.out.low.setCell (p:=⟨w.heap.size+1+1,0,none⟩) (by dsimp only;omega) (.slice A0 Y1.l.length C0)).setCell (p:=⟨w.heap.size+1+1,1,none⟩) (by dsimp only;omega) (.slice A1 Y1.g.length C1)).setCell (p:=⟨w.heap.size+1+1,2,none⟩) (by dsimp only;omega) (.slice A2 Y1.h.length C2)).setCell (p:=⟨w.heap.size+1+1,3,none⟩) (by dsimp only;omega) (.slice A3 us.length C3)),((((HP2.out.b0.setOther (g':=w.heap.size+1+1) (o:=0) (.slice A0 Y1.l.length C0) (by omega)).setOther (g':=w.heap.size+1+1) (o:=1) (.slice A1 Y1.g.length C1) (by omega)).setOther (g':=w.heap.size+1+1) (o:=2) (.slice A2 Y1.h.length C2) (by omega)).setOther (g':=w.heap.size+1+1) (o:=3) (.slice A3 us.length C3) (by omega)),((((HP2.out.b1.setOther (g':=w.heap.size+1+1) (o:=0) (.slice A0 Y1.l.length C0) (by omega)).setOther (g':=w.heap.size+1+1) (o:=1) (.slice A1 Y1.g.length C1) (by omega)).setOther (g':=w.heap.size+1+1) (o:=2) (.slice A2 Y1.h.length C2) (by omega)).setOther (g':=w.heap.size+1+1) (o:=3) (.slice A3 us.length C3) (by omega)),hfar.2.1.congr rfl,(own_low (g:=w.heap.size+1+1) (o:=3) (x:=.slice A3 us.length C3) (own_low (g:=w.heap.size+1+1) (o:=2) (x:=.slice A2 Y1.h.length C2) (own_low (g:=w.heap.size+1+1) (o:=1) (x:=.slice A1 Y1.g.length C1) (own_low (g:=w.heap.size+1+1) (o:=0) (x:=.slice A0 Y1.l.length C0) HP2.out.row (by omega)) (by omega)) (by omega)) (by omega))⟩
     have hba:Below ((((w2.setCell ⟨w.heap.size+1+1,0,none⟩ (.slice A0 Y1.l.length C0)).setCell ⟨w.heap.size+1+1,1,none⟩ (.slice A1 Y1.g.length C1)).setCell ⟨w.heap.size+1+1,2,none⟩ (.slice A2 Y1.h.length C2)).setCell ⟨w.heap.size+1+1,3,none⟩ (.slice A3 us.length C3)).heap.size ((((w2.setCell ⟨w.heap.size+1+1,0,none⟩ (.slice A0 Y1.l.length C0)).setCell ⟨w.heap.size+1+1,1,none⟩ (.slice A1 Y1.g.length C1)).setCell ⟨w.heap.size+1+1,2,none⟩ (.slice A2 Y1.h.length C2)).setCell ⟨w.heap.size+1+1,3,none⟩ (.slice A3 us.length C3)) (((((w2.setCell ⟨w.heap.size+1+1,0,none⟩ (.slice A0 Y1.l.length C0)).setCell ⟨w.heap.size+1+1,1,none⟩ (.slice A1 Y1.g.length C1)).setCell ⟨w.heap.size+1+1,2,none⟩ (.slice A2 Y1.h.length C2)).setCell ⟨w.heap.size+1+1,3,none⟩ (.slice A3 us.length C3)).alloc (.cells #[.slice A0 Y1.l.length C0,.slice A1 Y1.g.length C1,.slice A2 Y1.h.length C2,.slice A3 us.length C3] 26)):=(Below.refl _ _).alloc (Nat.le_refl _) _
     have HPN:=Lib.hid (hpn.below hba)
     have HMN:=Lib.hid (hfar.1.below hba)
     clear hba hfar hpn HP2 HM2
     obtain ⟨W3,hW3⟩:∃ X,X=(((((w2.setCell ⟨w.heap.size+1+1,0,none⟩ (.slice A0 Y1.l.length C0)).setCell ⟨w.heap.size+1+1,1,none⟩ (.slice A1 Y1.g.length C1)).setCell ⟨w.heap.size+1+1,2,none⟩ (.slice A2 Y1.h.length C2)).setCell ⟨w.heap.size+1+1,3,none⟩ (.slice A3 us.length C3)).alloc (.cells #[.slice A0 Y1.l.length C0,.slice A1 Y1.g.length C1,.slice A2 Y1.h.length C2,.slice A3 us.length C3] 26)):=⟨_,rfl⟩
     rw [← hW3] at HPN HMN ⊢
     clear hW3
     have FT:=Lib.hid (ref5_FitsD _ _ _ _ Y1 us W3 HMN.out ((okP_le HO2.out).mono (by decide) (by decide)) (by have:=HLE.out.2.2.2;omega))
     have RF:=Lib.hid (fun (h:fitsD Y1=true)=>HN.out.trans (if_pos (congrArg Prod.snd (resL_fits (y:=(Y1,at0,0)) rfl h))))
     have RM:=Lib.hid (fun (h:fitsD Y1=false)=>show res=(noPd,5,(k:Int)+1,1) by
      rw [HN.out,resL_many (y:=(Y1,at0,0)) rfl h];exact if_neg (by decide))
     have HFI:=Lib.hid (fun (h:fitsD Y1=true)=>h)
     clear HN
     generalize hfd:fitsD Y1=fd at FT RF RM
     have HFD:=Lib.hid hfd
     clear hfd
     refine FT.out.mono ?_
     rintro e w4 ⟨rfl,hb4⟩
     have HPF:=Lib.hid (HPN.out.below hb4)
     have HMF:=Lib.hid (HMN.out.below hb4)
     clear hb4 FT HPN HMN HFI
     cases fd with
     | true =>
      have R:=Lib.hid (RF.out rfl)
      go_wp2
      exact ⟨⟨k+1,Y1,_,_,_,_,us,by omega,by go_num,HMF,HO2,HFD,HPF,R⟩,by simp [intOf];omega⟩
     | false =>
      have R:=Lib.hid (RM.out rfl)
      have hlow:=HPF.out.low
      obtain ⟨ca,fa,za⟩:=HPF.out.b0
      obtain ⟨cb,fb,zb⟩:=HPF.out.b1
      go_wp2
      refine bodyPost_ret (v:=.tuple #[pv nilV nilV nilV nilV,.agg #[.int .i64 5,.int .i64 ((k:Int)+1),.int .i64 1]]) (by simp [results,Tryz.results25,go_sem,ca,cb]) rfl ?_
      refine ⟨nilV,nilV,nilV,nilV,[],by rw [R.out],by rw [R.out];exact PolD.nil _,?_⟩
      have hb4:=hlow
      (repeat' (first | with_reducible exact Below.refl _ _ | with_reducible assumption | with_reducible (refine Below.setCell ?_ ?_ _) | with_reducible (refine Below.alloc ?_ ?_ _) | with_reducible (refine below_drew ?_) | with_reducible (refine below_drewN ?_ _) | with_reducible (refine Below.trans ?_ (Below.mono (by assumption) ?_)) | omega | (simp;done) | (simp;omega)))
    ·have HN:=Lib.hid (show res=(noPd,y0,(k:Int)+1,at0) by
      rw [HN.out,resL_bad (y:=(Y1,at0,y0)) hy];exact if_neg hy)
     have d1:(y0 != 0)=true:=by simp [hy]
     have hlow:=HP2.out.low
     obtain ⟨ca,fa,za⟩:=HP2.out.b0
     obtain ⟨cb,fb,zb⟩:=HP2.out.b1
     clear hy HPD HOK
     go_wp2
     refine bodyPost_ret (v:=.tuple #[pv nilV nilV nilV nilV,.agg #[.int .i64 y0,.int .i64 ((k:Int)+1),.int .i64 at0]]) (by simp [results,Tryz.results25,go_sem,ca,cb,za,zb]) rfl ?_
     refine ⟨nilV,nilV,nilV,nilV,[],by rw [HN.out],by rw [HN.out];exact PolD.nil _,?_⟩
     have hb4:=hlow
     (repeat' (first | with_reducible exact Below.refl _ _ | with_reducible assumption | with_reducible (refine Below.setCell ?_ ?_ _) | with_reducible (refine Below.alloc ?_ ?_ _) | with_reducible (refine below_drew ?_) | with_reducible (refine below_drewN ?_ _) | with_reducible (refine Below.trans ?_ (Below.mono (by assumption) ?_)) | omega | (simp;done) | (simp;omega)))
   ·have HN:=Lib.hid (show res=(p,0,0,0) by rw [HE.out,List.drop_eq_nil_of_le (by omega)];rfl)
    have hlow:=HP.out.low
    obtain ⟨ca,fa,za⟩:=HP.out.b0
    obtain ⟨cb,fb,zb⟩:=HP.out.b1
    have h0:=(PolD.farB (o:=3) (x:=.slice a3 zs.length c3) (PolD.farB (o:=2) (x:=.slice a2 p.h.length c2) (PolD.farB (o:=1) (x:=.slice a1 p.g.length c1) (PolD.farB (o:=0) (x:=.slice a0 p.l.length c0) ⟨HM.out,HP.out.b0,noStr4 rfl rfl rfl rfl⟩ (by simp) (fun s e=>by cases e)) (by simp) (fun s e=>by cases e)) (by simp) (fun s e=>by cases e)) (by simp) (fun s e=>by cases e))
    have h1:=(PolD.farB (o:=2) (x:=.int .i64 0) (PolD.farB (o:=1) (x:=.int .i64 0) (PolD.farB (o:=0) (x:=.int .i64 0) ⟨h0.1,(((((HP.out.b1).setOther (g':=w.heap.size) (o:=0) (.slice a0 p.l.length c0) (by omega)).setOther (g':=w.heap.size) (o:=1) (.slice a1 p.g.length c1) (by omega)).setOther (g':=w.heap.size) (o:=2) (.slice a2 p.h.length c2) (by omega)).setOther (g':=w.heap.size) (o:=3) (.slice a3 zs.length c3) (by omega)),noStr3 0 0 0⟩ (by simp) (fun s e=>by cases e)) (by simp) (fun s e=>by cases e)) (by simp) (fun s e=>by cases e))
    have HOW:=Lib.hid h1.1
    clear h0 h1
    go_wp2
    refine bodyPost_ret (v:=.tuple #[pv (.slice a0 p.l.length c0) (.slice a1 p.g.length c1) (.slice a2 p.h.length c2) (.slice a3 zs.length c3),.agg #[.int .i64 0,.int .i64 0,.int .i64 0]]) (by simp [results,Tryz.results25,go_sem,ca,cb]) rfl ?_
    refine ⟨_,_,_,_,zs,by rw [HN.out],by rw [HN.out];exact HOW.out,?_⟩
    have hb4:=hlow
    (repeat' (first | with_reducible exact Below.refl _ _ | with_reducible assumption | with_reducible (refine Below.setCell ?_ ?_ _) | with_reducible (refine Below.alloc ?_ ?_ _) | with_reducible (refine below_drew ?_) | with_reducible (refine below_drewN ?_ _) | with_reducible (refine Below.trans ?_ (Below.mono (by assumption) ?_)) | omega | (simp;done) | (simp;omega)))
end
section
open Go.RowKit Go.Shelf

end
section
open Go.RowKit Go.Shelf

theorem take_moreT {α:Type} {l m:List α} {k:Nat} (h:l.take k=m.take k) (hl:k < l.length) (hm:k < m.length) (e:l[k]=m[k]):l.take (k+1)=m.take (k+1):=by
 rw [List.take_succ_eq_append_getElem hl,List.take_succ_eq_append_getElem hm,h,e]
theorem same_endT {l m:List ByteArray} {k:Nat} (h:l.take k=m.take k) (hl:¬ k < l.length) (hm:¬ k < m.length):decide (l=m)=true:=by
 rw [List.take_of_length_le (by omega),List.take_of_length_le (by omega)] at h
 exact decide_eq_true h
theorem same_noT {l m:List ByteArray} {k:Nat} (hl:k < l.length) (hm:k < m.length) (e:¬ l[k]=m[k]):decide (l=m)=false:=decide_eq_false (fun h=>e (by subst h;rfl))
theorem same_lenT {l m:List ByteArray} (h:¬ l.length=m.length):decide (l=m)=false:=decide_eq_false (fun e=>h (by rw [e]))
end
section
open Go.RowKit Go.Shelf

set_option maxRecDepth 100000 in
set_option maxHeartbeats 2000000 in
theorem ref1_SameQ (va vb:Value) (l m:List ByteArray) (w:World) (ha:SlA w 1 va l.length (strs l)) (hb:SlA w 1 vb m.length (strs m)) :
  Calls Tryz.prog 13 #[va,vb] w fun e w'=>e=.returned (.bool (decide (l=m)))∧∃ n,w'=w.drewN n:=by
 have hmax:=ha.max
 have hmax2:=hb.max
 by_cases hl:l.length=m.length
 case neg =>
  have R:=Lib.hid (same_lenT hl)
  have d:((l.length:Int) != (m.length:Int))=true:=by rw [bne_iff_ne];omega
  obtain ⟨a1,c1,rfl⟩:=ha.form
  obtain ⟨a2,c2,rfl⟩:=hb.form
  clear ha hb hl
  go_enter Tryz.func13,Tryz.ntmps13
  go_wp2
  go_ret
  exact ⟨ret_b R.out.symm,0,rfl⟩
 have hne:((l.length:Int) != (m.length:Int))=false:=by rw [hl];simp
 by_cases h0:0 < l.length
 ·obtain ⟨b1,o1,c1,rfl,hc1,hm1,_,hx1⟩:=ha.pos h0
  obtain ⟨b2,o2,c2,rfl,hc2,hm2,_,hx2⟩:=hb.pos (by omega)
  have HX1:=Lib.hid hx1
  have HX2:=Lib.hid hx2
  have HL:=Lib.hid hl
  clear ha hb hx1 hx2 hl
  go_enter Tryz.func13,Tryz.ntmps13
  go_wp2
  go_loopw [13] (fun i wr => ∃ k n:Nat,k≤l.length∧i=.int .i64 k∧wr=w.drewN n∧Hid (l.take k=m.take k)) (fun i _=>l.length - (intOf i).toNat)
  case atStart=>exact ⟨0,0,by omega,rfl,rfl,Lib.hid (by simp)⟩
  case round =>
   obtain ⟨k,n,hk,rfl,rfl,HT⟩:=hrel
   by_cases hlt:k < l.length
   ·have hlt2:k < m.length:=by have:=HL.out;omega
    have p0:=HX1.out k _ (strs_get hlt)
    have q0:=HX2.out k _ (strs_get hlt2)
    by_cases he:l[k]=m[k]
    ·have HN:=Lib.hid (take_moreT HT.out hlt hlt2 he)
     have d1:(!(l[k].toList == m[k].toList))=false:=by rw [beq_str,decide_eq_true he];rfl
     clear he
     generalize l[k]=x at *
     generalize m[k]=y at *
     go_wp2_with fail
     go_big_quiet (fail)
     go_wp2
     exact ⟨⟨k+1,n+nq,by omega,by go_num,rfl,HN⟩,by simp [intOf];omega⟩
    ·have R:=Lib.hid (same_noT hlt hlt2 he)
     have d1:(!(l[k].toList == m[k].toList))=true:=by rw [beq_str,decide_eq_false he];rfl
     clear he
     generalize l[k]=x at *
     generalize m[k]=y at *
     go_wp2_with fail
     go_big_quiet (fail)
     go_wp2
     go_ret
     exact ⟨ret_b R.out.symm,n+nq,by simp [World.drewN,Nat.add_assoc]⟩
   ·have R:=Lib.hid (same_endT HT.out hlt (by have:=HL.out;omega))
    go_wp2
    go_ret
    exact ⟨ret_b R.out.symm,n,rfl⟩
 ·have R:=Lib.hid (same_endT (l:=l) (m:=m) (k:=0) (by simp) h0 (by omega))
  obtain ⟨a1,c1,rfl⟩:=ha.form
  obtain ⟨a2,c2,rfl⟩:=hb.form
  have d0:l.length=0:=by omega
  have d02:m.length=0:=by omega
  clear ha hb h0 hmax hl hmax2
  go_enter Tryz.func13,Tryz.ntmps13
  go_wp2
  go_loopw [13] (fun i wr=>i=.int .i64 0∧wr=w) (fun _ _=>0)
  case atStart=>exact ⟨rfl,rfl⟩
  case round =>
   obtain ⟨rfl,rfl⟩:=hrel
   go_wp2
   go_ret
   exact ⟨ret_b R.out.symm,0,rfl⟩
theorem ref1_SameQB (va vb:Value) (l m:List ByteArray) (w:World) (ha:SlA w 1 va l.length (strs l)) (hb:SlA w 1 vb m.length (strs m)) :
  Calls Tryz.prog 13 #[va,vb] w fun e w'=>e=.returned (.bool (decide (l=m)))∧Below w.heap.size w w' :=
 (ref1_SameQ va vb l m w ha hb).mono fun e w' ⟨he,n,hn⟩=>⟨he,by rw [hn];exact below_of_drewN n⟩
def sameQ (x y:Qd):Bool:=if x.k=y.k then if x.a=y.a then if x.b=y.b then decide (x.us=y.us) else false else false else false
theorem sameQ_iff {x y:Qd}:sameQ x y=true↔x=y:=by
 obtain ⟨k,a,b,us⟩:=x
 obtain ⟨k',a',b',us'⟩:=y
 unfold sameQ
 simp only [Qd.mk.injEq]
 constructor
 ·intro h
  split at h
  ·split at h
   ·split at h
    ·exact ⟨by assumption,by assumption,by assumption,of_decide_eq_true h⟩
    ·exact absurd h (by decide)
   ·exact absurd h (by decide)
  ·exact absurd h (by decide)
 ·rintro ⟨rfl,rfl,rfl,rfl⟩
  simp
set_option maxRecDepth 100000 in
set_option maxHeartbeats 2000000 in
theorem ref4_SameQ (x y:Qd) (va vb:Value) (w:World) (ha:SlA w 1 va x.us.length (strs x.us)) (hb:SlA w 1 vb y.us.length (strs y.us)) :
  Calls Tryz.prog 133 #[qdv x va,qdv y vb] w fun e w'=>e=.returned (.bool (sameQ x y))∧Below w.heap.size w w':=by
 have E:=Lib.hid (show sameQ x y=(if x.k=y.k then if x.a=y.a then if x.b=y.b then decide (x.us=y.us) else false else false else false) from rfl)
 have hEq:=role_eql
 have SS:=Lib.hid (fun W (h:Below w.heap.size w W)=>ref1_SameQB va vb x.us y.us W (ha.below h) (hb.below h))
 generalize sameQ x y=r at *
 obtain ⟨k,⟨x1,x2⟩,⟨x3,x4⟩,us⟩:=x
 obtain ⟨k',⟨y1,y2⟩,⟨y3,y4⟩,us'⟩:=y
 dsimp only at E SS ha hb
 obtain ⟨wo,wc,rfl⟩:=ha.form
 obtain ⟨uo,uc,rfl⟩:=hb.form
 have HT:=Lib.hid (TwoAt.new w #[.int .i64 k,.string x1,.string x2,.string x3,.string x4,.slice wo us.length wc] #[.int .i64 k',.string y1,.string y2,.string y3,.string y4,.slice uo us'.length uc] 83 83)
 have SS:=Lib.hid (SS.out _ HT.out.low)
 clear ha hb
 by_cases h1:k=k'
 case neg =>
  have R:=Lib.hid (show r=false by rw [E.out,if_neg h1])
  have d1:(k == k')=false:=by simpa using h1
  clear h1 E
  go_enter Tryz.func133,Tryz.ntmps133
  go_wp2
  go_ret
  exact ⟨ret_b R.out.symm,HT.out.low⟩
 rw [if_pos h1] at E
 subst h1
 by_cases h2:(⟨x1,x2⟩:Rl)=⟨y1,y2⟩
 case neg =>
  have R:=Lib.hid (show r=false by rw [E.out,if_neg h2])
  have d1:eqRl ⟨x1,x2⟩ ⟨y1,y2⟩=false:=decide_eq_false h2
  clear h2 E
  go_enter Tryz.func133,Tryz.ntmps133
  go_wp2
  go_ret
  exact ⟨ret_b R.out.symm,HT.out.low⟩
 rw [if_pos h2] at E
 have d1:eqRl ⟨x1,x2⟩ ⟨y1,y2⟩=true:=decide_eq_true h2
 clear h2
 by_cases h3:(⟨x3,x4⟩:Rl)=⟨y3,y4⟩
 case neg =>
  have R:=Lib.hid (show r=false by rw [E.out,if_neg h3])
  have d2:eqRl ⟨x3,x4⟩ ⟨y3,y4⟩=false:=decide_eq_false h3
  clear h3 E
  go_enter Tryz.func133,Tryz.ntmps133
  go_wp2
  go_ret
  exact ⟨ret_b R.out.symm,HT.out.low⟩
 rw [if_pos h3] at E
 have d2:eqRl ⟨x3,x4⟩ ⟨y3,y4⟩=true:=decide_eq_true h3
 clear h3
 generalize decide (us=us')=d at *
 have R:=Lib.hid E.out
 clear E
 go_enter Tryz.func133,Tryz.ntmps133
 go_wp2_with fail
 refine SS.out.mono ?_
 rintro e w1 ⟨rfl,hb⟩
 have HT:=Lib.hid (HT.out.later hb)
 clear hb SS
 go_wp2
 go_ret
 exact ⟨ret_b R.out.symm,HT.out.low⟩
end
section
open Go.RowKit Go.Shelf

instance:DecidableEq Qd:=fun x y=>decidable_of_iff (sameQ x y=true) sameQ_iff
theorem take_same {α:Type} {l m:List α} {k:Nat} (h:l.take k=m.take k) (h1:k < l.length) (h2:k < m.length) (he:l[k]=m[k]):l.take (k+1)=m.take (k+1):=by
 rw [List.take_succ_eq_append_getElem h1,List.take_succ_eq_append_getElem h2,h,he]
set_option maxRecDepth 100000 in
set_option maxHeartbeats 4000000 in
theorem ref4_SameAllQ (va vb:Value) (xs ys:List (Qd × Value)) (w:World) (ha:SlA w 6 va xs.length ((xs.map qz).flatMap Qv.cells)) (hb:SlA w 6 vb ys.length ((ys.map qz).flatMap Qv.cells)) (hx:∀ z∈xs,SlA w 1 z.2 z.1.us.length (strs z.1.us)) (hy:∀ z∈ys,SlA w 1 z.2 z.1.us.length (strs z.1.us)) :
  Calls Tryz.prog 71 #[va,vb] w fun e w'=>e=.returned (.bool (decide (xs.map (·.1)=ys.map (·.1))))∧Below w.heap.size w w':=by
 have hm1:=ha.max
 have hm2:=hb.max
 have HA:=Lib.hid ha
 have HB:=Lib.hid hb
 have HX:=Lib.hid hx
 have HY:=Lib.hid hy
 obtain ⟨ao,ac,rfl⟩:=ha.form
 obtain ⟨bo,bc,rfl⟩:=hb.form
 have R1:=Lib.hid (fun (h:xs.map (·.1)=ys.map (·.1))=>decide_eq_true h)
 have R0:=Lib.hid (fun (h:¬ xs.map (·.1)=ys.map (·.1))=>decide_eq_false h)
 generalize decide (xs.map (·.1)=ys.map (·.1))=res at *
 clear ha hb hx hy
 by_cases hl:xs.length=ys.length
 ·have hne:((xs.length:Int) != (ys.length:Int))=false:=by rw [hl];simp
  have HL:=Lib.hid hl
  clear hl
  go_enter Tryz.func71,Tryz.ntmps71
  go_wp2_with fail
  go_loopw [13] (fun i wr => ∃ k:Nat,k≤xs.length∧i=.int .i64 k∧Hid ((xs.map (·.1)).take k=(ys.map (·.1)).take k)∧Hid (Below w.heap.size w wr)) (fun i _=>xs.length - (intOf i).toNat)
  case atStart=>exact ⟨0,by omega,rfl,Lib.hid rfl,Lib.hid (Below.refl _ _)⟩
  case round =>
   obtain ⟨k,hk,rfl,HK,HW⟩:=hrel
   by_cases hlt:k < xs.length
   ·have hlt2:k < ys.length:=by rw [← HL.out];exact hlt
    have hlm:k < (xs.map qz).length:=by simpa using hlt
    have hlm2:k < (ys.map qz).length:=by simpa using hlt2
    obtain ⟨b1,o1,c1,he1,hc1,hm1',hb1,hx1⟩:=(HA.out.below HW.out).pos (by omega)
    simp only [Value.slice.injEq,true_and] at he1
    obtain ⟨rfl,rfl⟩:=he1
    obtain ⟨b2,o2,c2,he2,hc2,hm2',hb2,hx2⟩:=(HB.out.below HW.out).pos (by omega)
    simp only [Value.slice.injEq,true_and] at he2
    obtain ⟨rfl,rfl⟩:=he2
    obtain ⟨p0,p1,p2,p3,p4,p5⟩:=q_cell (w:=wr) (l:=xs.map qz) hx1 k hlm
    obtain ⟨q0,q1,q2,q3,q4,q5⟩:=q_cell (w:=wr) (l:=ys.map qz) hx2 k hlm2
    have e1:(xs.map qz)[k]=qz xs[k]:=by simp
    have e2:(ys.map qz)[k]=qz ys[k]:=by simp
    rw [e1] at p0 p1 p2 p3 p4 p5
    rw [e2] at q0 q1 q2 q3 q4 q5
    have hu1:=(HX.out _ (List.getElem_mem hlt)).below HW.out
    have hu2:=(HY.out _ (List.getElem_mem hlt2)).below HW.out
    have SQ:=Lib.hid (fun W (hb:Below wr.heap.size wr W)=>ref4_SameQ xs[k].1 ys[k].1 xs[k].2 ys[k].2 W (hu1.below hb) (hu2.below hb))
    have HN:=Lib.hid (fun (h:sameQ xs[k].1 ys[k].1=true)=>take_same HK.out (by simpa using hlt) (by simpa using hlt2) (by simpa using sameQ_iff.1 h))
    have HF:=Lib.hid (fun (h:sameQ xs[k].1 ys[k].1=false)=>show res=false by
     refine R0.out (fun e=>?_)
     have h1:(xs.map (·.1))[k]'(by simpa using hlt)=(ys.map (·.1))[k]'(by simpa using hlt2):=by simp only [e]
     simp only [List.getElem_map] at h1
     rw [sameQ_iff.2 h1] at h
     cases h)
    generalize sameQ xs[k].1 ys[k].1=sb at *
    generalize xs[k]=X at *
    generalize ys[k]=Y at *
    obtain ⟨⟨xk,⟨x1,x2⟩,⟨x3,x4⟩,xs5⟩,xv⟩:=X
    obtain ⟨⟨yk,⟨y1,y2⟩,⟨y3,y4⟩,ys5⟩,yv⟩:=Y
    dsimp only [qz] at hu1 hu2 p0 p1 p2 p3 p4 p5 q0 q1 q2 q3 q4 q5 SQ
    obtain ⟨xo,xc,rfl⟩:=hu1.form
    obtain ⟨yo,yc,rfl⟩:=hu2.form
    have hr1:b1 < wr.heap.size:=hb1
    have hr2:b2 < wr.heap.size:=hb2
    have HS:=Lib.hid (fun (W:World) (hb:Below wr.heap.size wr W)=>show W.cell? ⟨b1,o1+k * 6,none⟩=some (.int .i64 xk)∧W.cell? ⟨b1,o1+k * 6+1,none⟩=some (.string x1)∧W.cell? ⟨b1,o1+k * 6+2,none⟩=some (.string x2)∧W.cell? ⟨b1,o1+k * 6+3,none⟩=some (.string x3)∧W.cell? ⟨b1,o1+k * 6+4,none⟩=some (.string x4)∧W.cell? ⟨b1,o1+k * 6+5,none⟩=some (.slice xo xs5.length xc)∧W.cell? ⟨b2,o2+k * 6,none⟩=some (.int .i64 yk)∧W.cell? ⟨b2,o2+k * 6+1,none⟩=some (.string y1)∧W.cell? ⟨b2,o2+k * 6+2,none⟩=some (.string y2)∧W.cell? ⟨b2,o2+k * 6+3,none⟩=some (.string y3)∧W.cell? ⟨b2,o2+k * 6+4,none⟩=some (.string y4)∧W.cell? ⟨b2,o2+k * 6+5,none⟩=some (.slice yo ys5.length yc) from ⟨(hb.cell (p:=⟨b1,_,none⟩) hr1).trans p0,(hb.cell (p:=⟨b1,_,none⟩) hr1).trans p1,(hb.cell (p:=⟨b1,_,none⟩) hr1).trans p2,(hb.cell (p:=⟨b1,_,none⟩) hr1).trans p3,(hb.cell (p:=⟨b1,_,none⟩) hr1).trans p4,(hb.cell (p:=⟨b1,_,none⟩) hr1).trans p5,(hb.cell (p:=⟨b2,_,none⟩) hr2).trans q0,(hb.cell (p:=⟨b2,_,none⟩) hr2).trans q1,(hb.cell (p:=⟨b2,_,none⟩) hr2).trans q2,(hb.cell (p:=⟨b2,_,none⟩) hr2).trans q3,(hb.cell (p:=⟨b2,_,none⟩) hr2).trans q4,(hb.cell (p:=⟨b2,_,none⟩) hr2).trans q5⟩)
    clear hx1 hx2 hu1 hu2 p0 p1 p2 p3 p4 p5 q0 q1 q2 q3 q4 q5 e1 e2 hlm hlm2
    go_wp2_with fail
    refine wp_region_held_drew (S:=(fun W=>W.cell? ⟨b1,o1+k * 6,none⟩=some (.int .i64 xk)∧W.cell? ⟨b1,o1+k * 6+1,none⟩=some (.string x1)∧W.cell? ⟨b1,o1+k * 6+2,none⟩=some (.string x2)∧W.cell? ⟨b1,o1+k * 6+3,none⟩=some (.string x3)∧W.cell? ⟨b1,o1+k * 6+4,none⟩=some (.string x4)∧W.cell? ⟨b1,o1+k * 6+5,none⟩=some (.slice xo xs5.length xc)∧W.cell? ⟨b2,o2+k * 6,none⟩=some (.int .i64 yk)∧W.cell? ⟨b2,o2+k * 6+1,none⟩=some (.string y1)∧W.cell? ⟨b2,o2+k * 6+2,none⟩=some (.string y2)∧W.cell? ⟨b2,o2+k * 6+3,none⟩=some (.string y3)∧W.cell? ⟨b2,o2+k * 6+4,none⟩=some (.string y4)∧W.cell? ⟨b2,o2+k * 6+5,none⟩=some (.slice yo ys5.length yc))) (by kernel_rfl) (HS.out _ (below_drew (Below.refl _ _))) (fun hHeld=>?_)
    (refine hyes 0 ?_);(refine hyes 1 ?_);(refine hyes 2 ?_);(refine hyes 3 ?_);(refine hyes 4 ?_);(refine hyes 5 ?_);(refine hyes 6 ?_);(refine hyes 7 ?_);(try simp only [Act.put,List.setIfInBounds_toArray,List.set])
    (refine held_call 8 rfl (by kernel_rfl) (fun K hK=>?_);go_simp)
    go_at_call 133;refine (SQ.out _ (below_drew (Below.refl _ _))).mono ?_;rintro e w2 ⟨rfl,hb2'⟩
    have hb3:=(below_drew (Below.refl wr.heap.size wr)).trans (hb2'.mono (below_drew (Below.refl wr.heap.size wr)).size)
    have HW2:=Lib.hid (HW.out.trans (hb3.mono HW.out.size))
    have HS2:=HS.out _ hb3
    clear hb2' hb3
    (refine hK.out _ _ (HS2) (fun hHeld=>?_);clear hK K;(try simp only [Act.put,List.setIfInBounds_toArray,List.set]))
    clear HS2
    (refine hyes 9 ?_);(try simp only [Act.put,List.setIfInBounds_toArray,List.set])
    refine wpAnyH_done (by kernel_rfl) ?_ _
    cases sb with
    | true =>
     have HN2:=Lib.hid (HN.out rfl)
     go_wp2
     exact ⟨⟨k+1,by omega,by go_num,HN2,HW2⟩,by simp [intOf];omega⟩
    | false =>
     have R:=Lib.hid (HF.out rfl)
     go_wp2
     go_ret
     exact ⟨ret_b R.out.symm,HW2.out⟩
   ·have R:=Lib.hid (show res=true by
     have h:=HK.out
     rw [List.take_of_length_le (by simp;omega),List.take_of_length_le (by have:=HL.out;simp;omega)] at h
     exact R1.out h)
    go_wp2
    go_ret
    exact ⟨ret_b R.out.symm,HW.out⟩
 ·have hne:((xs.length:Int) != (ys.length:Int))=true:=by simp;omega
  have R:=Lib.hid (show res=false by
   refine R0.out (fun e=>hl ?_)
   have h:=congrArg List.length e
   simpa using h)
  clear hl
  go_enter Tryz.func71,Tryz.ntmps71
  go_wp2
  go_ret
  exact ⟨ret_b R.out.symm,Below.refl _ _⟩
end
section
open Go.RowKit Go.Shelf

def sameD (p q:Pd):Bool:=decide (p.l=q.l) && (decide (p.g=q.g) && (decide (p.h=q.h) && decide (p.q=q.q)))
theorem sameD_iff {p q:Pd}:sameD p q=true↔p=q:=by
 obtain ⟨a,b,c,d⟩:=p
 obtain ⟨a',b',c',d'⟩:=q
 simp [sameD]
set_option maxRecDepth 100000 in
set_option maxHeartbeats 4000000 in
theorem ref5_SameD (v0 v1 v2 v3 u0 u1 u2 u3:Value) (p q:Pd) (zs us:List (Qd × Value)) (w:World) (hp:PolD w v0 v1 v2 v3 p zs) (hq:PolD w u0 u1 u2 u3 q us) :
  Calls Tryz.prog 26 #[pv v0 v1 v2 v3,pv u0 u1 u2 u3] w fun e w'=>e=.returned (.bool (sameD p q))∧Below w.heap.size w w':=by
 have C0:=Lib.hid (fun W (hb:Below w.heap.size w W)=>ref3_SameB v0 u0 p.l q.l W (hp.rs.below hb) (hq.rs.below hb))
 have C1:=Lib.hid (fun W (hb:Below w.heap.size w W)=>ref3_SameRolesE v1 u1 p.g q.g W (hp.rg.below hb) (hq.rg.below hb))
 have C2:=Lib.hid (fun W (hb:Below w.heap.size w W)=>ref3_SameRolesE v2 u2 p.h q.h W (hp.rh.below hb) (hq.rh.below hb))
 have C3:=Lib.hid (fun W (hb:Below w.heap.size w W)=>ref4_SameAllQ v3 u3 zs us W (hp.rq.below hb) (hq.rq.below hb) (fun z hz=>(hp.rw z hz).below hb) (fun z hz=>(hq.rw z hz).below hb))
 rw [hp.z,hq.z] at C3
 have RES:=Lib.hid (show sameD p q=(decide (p.l=q.l) && (decide (p.g=q.g) && (decide (p.h=q.h) && decide (p.q=q.q)))) from rfl)
 generalize sameD p q=res at *
 generalize decide (p.l=q.l)=e0 at *
 generalize decide (p.g=q.g)=e1 at *
 generalize decide (p.h=q.h)=e2 at *
 generalize decide (p.q=q.q)=e3 at *
 obtain ⟨a0,c0,rfl⟩:=hp.rs.form
 obtain ⟨a1,c1,rfl⟩:=hp.rg.form
 obtain ⟨a2,c2,rfl⟩:=hp.rh.form
 obtain ⟨a3,c3,rfl⟩:=hp.rq.form
 obtain ⟨b0,d0,rfl⟩:=hq.rs.form
 obtain ⟨b1,d1,rfl⟩:=hq.rg.form
 obtain ⟨b2,d2,rfl⟩:=hq.rh.form
 obtain ⟨b3,d3,rfl⟩:=hq.rq.form
 have HT:=Lib.hid (TwoAt.new w #[.slice a0 p.l.length c0,.slice a1 p.g.length c1,.slice a2 p.h.length c2,.slice a3 zs.length c3] #[.slice b0 q.l.length d0,.slice b1 q.g.length d1,.slice b2 q.h.length d2,.slice b3 us.length d3] 26 26)
 clear hp hq
 go_enter Tryz.func26,Tryz.ntmps26
 go_wp2_with fail
 refine (C0.out _ HT.out.low).mono ?_
 rintro e w0 ⟨rfl,hb⟩
 have HT:=Lib.hid (HT.out.later hb)
 clear hb C0
 by_cases h0:e0=true
 case neg =>
  obtain rfl:e0=false:=nb h0
  have R:=Lib.hid (show res=false by rw [RES.out];simp)
  go_wp2
  go_ret
  exact ⟨ret_b R.out.symm,HT.out.low⟩
 subst h0
 obtain ⟨ca,fa,za⟩:=HT.out.a
 obtain ⟨cb,fb,zb⟩:=HT.out.b
 go_wp2_with fail
 refine (C1.out _ HT.out.low).mono ?_
 rintro e w1 ⟨rfl,hb⟩
 have HT:=Lib.hid (HT.out.later hb)
 clear hb C1 ca fa za cb fb zb
 by_cases h1:e1=true
 case neg =>
  obtain rfl:e1=false:=nb h1
  have R:=Lib.hid (show res=false by rw [RES.out];simp)
  go_wp2
  go_ret
  exact ⟨ret_b R.out.symm,HT.out.low⟩
 subst h1
 obtain ⟨ca,fa,za⟩:=HT.out.a
 obtain ⟨cb,fb,zb⟩:=HT.out.b
 go_wp2_with fail
 refine (C2.out _ HT.out.low).mono ?_
 rintro e w2 ⟨rfl,hb⟩
 have HT:=Lib.hid (HT.out.later hb)
 clear hb C2 ca fa za cb fb zb
 by_cases h2:e2=true
 case neg =>
  obtain rfl:e2=false:=nb h2
  have R:=Lib.hid (show res=false by rw [RES.out];simp)
  go_wp2
  go_ret
  exact ⟨ret_b R.out.symm,HT.out.low⟩
 subst h2
 obtain ⟨ca,fa,za⟩:=HT.out.a
 obtain ⟨cb,fb,zb⟩:=HT.out.b
 go_wp2_with fail
 refine (C3.out _ HT.out.low).mono ?_
 rintro e w3 ⟨rfl,hb⟩
 have HT:=Lib.hid (HT.out.later hb)
 clear hb C3 ca fa za cb fb zb
 have R:=Lib.hid (show res=e3 by rw [RES.out];simp)
 go_wp2
 go_ret
 exact ⟨ret_b R.out.symm,HT.out.low⟩
end
section
open Go.RowKit Go.Shelf

set_option maxRecDepth 100000 in
set_option maxHeartbeats 4000000 in
theorem law5_PolicyParses (s:ByteArray) (w:World) (hg:Gl w) (hs:s.size≤9223372036854775807) :
  Calls Tryz.prog 4 #[.string s] w fun e w'=>e=.returned (.bool true)∧Below w.heap.size w w':=by
 have HL:=Lib.hid (fun W (hb:Below w.heap.size w W)=>law5_lives W (hg.below hb))
 have P:=Lib.hid (policy_Parse s w hg hs)
 have Q:=Lib.hid (fun W=>ref5_Parse s W hs)
 have hEq:=fault_eql
 have hSelf:=eqF_same
 by_cases h3:3000 < s.size
 ·have d1:decide ((3000:Int) < (s.size:Int))=true:=by (rw [decide_eq_true_iff];omega)
  by_cases h8:s.size≤8000
  ·have d2:decide ((s.size:Int)≤8000)=true:=by (rw [decide_eq_true_iff];omega)
   clear hg h3 h8
   go_enter Tryz.func4,Tryz.ntmps4
   go_wp2_with fail
   refine (HL.out _ (Below.refl _ _)).mono ?_
   rintro e w1 ⟨rfl,hb⟩
   go_wp2
   go_ret
   exact ⟨rfl,hb⟩
  ·have d2:decide ((s.size:Int)≤8000)=false:=by (rw [decide_eq_false_iff_not];omega)
   generalize parseP s=r at P Q
   obtain ⟨p,r1,r2,r3⟩:=r
   clear hg h3 h8
   go_enter Tryz.func4,Tryz.ntmps4
   go_wp2_with fail
   refine P.out.mono ?_
   rintro e w1 ⟨v0,v1,v2,v3,zs,rfl,hpo,hb1⟩
   have HP:=Lib.hid hpo.pol
   obtain ⟨a0,c0,rfl⟩:=hpo.pol.rs.form
   obtain ⟨a1,c1,rfl⟩:=hpo.pol.rg.form
   obtain ⟨a2,c2,rfl⟩:=hpo.pol.rh.form
   obtain ⟨a3,c3,rfl⟩:=hpo.pol.rq.form
   have HT:=Lib.hid (TwoAt.new w1 #[.slice a0 p.l.length c0,.slice a1 p.g.length c1,.slice a2 p.h.length c2,.slice a3 zs.length c3] #[.int .i64 r1,.int .i64 r2,.int .i64 r3] 26 48)
   have HB1:=Lib.hid hb1
   clear hpo hb1 P
   dsimp only
   go_wp2_with fail
   obtain ⟨WX,hWX⟩:∃ X,X=(w1.alloc (.cells #[.slice a0 p.l.length c0,.slice a1 p.g.length c1,.slice a2 p.h.length c2,.slice a3 zs.length c3] 26)).alloc (.cells #[.int .i64 r1,.int .i64 r2,.int .i64 r3] 48):=⟨_,rfl⟩
   rw [← hWX] at HT ⊢
   clear hWX
   refine (Q.out _).mono ?_
   rintro e w2 ⟨u0,u1,u2,u3,us,rfl,hqo,hb2⟩
   have HQ:=Lib.hid hqo
   have HT:=Lib.hid (HT.out.later hb2)
   obtain ⟨b0,d0,rfl⟩:=hqo.rs.form
   obtain ⟨b1,d1',rfl⟩:=hqo.rg.form
   obtain ⟨b2,d2',rfl⟩:=hqo.rh.form
   obtain ⟨b3,d3,rfl⟩:=hqo.rq.form
   have HP:=Lib.hid (HP.out.below HT.out.low)
   have HU:=Lib.hid (TwoAt.new w2 #[.slice b0 p.l.length d0,.slice b1 p.g.length d1',.slice b2 p.h.length d2',.slice b3 us.length d3] #[.int .i64 r1,.int .i64 r2,.int .i64 r3] 26 48)
   have SM:=Lib.hid (fun W (hb:Below w2.heap.size w2 W)=>ref5_SameD _ _ _ _ _ _ _ _ p p zs us W (HP.out.below hb) (hqo.below hb))
   rw [sameD_iff.2 (rfl:p=p)] at SM
   clear hqo hb2 Q
   dsimp only
   obtain ⟨ca,fa,za⟩:=HT.out.a
   obtain ⟨cb,fb,zb⟩:=HT.out.b
   go_wp2_with fail
   clear ca fa za cb fb zb
   refine (SM.out _ HU.out.low).mono ?_
   rintro e w3 ⟨rfl,hb3⟩
   have HU:=Lib.hid (HU.out.later hb3)
   have HBW:=Lib.hid (HB1.out.trans ((HT.out.low.trans (HU.out.low.mono HT.out.low.size)).mono HB1.out.size))
   clear hb3 SM
   go_wp2_with fail
   refine (HL.out _ HBW.out).mono ?_
   rintro e w4 ⟨rfl,hb4⟩
   have HBX:=Lib.hid (HBW.out.trans (hb4.mono HBW.out.size))
   clear hb4
   go_wp2
   go_ret
   exact ⟨rfl,HBX.out⟩
 ·have d1:decide ((3000:Int) < (s.size:Int))=false:=by (rw [decide_eq_false_iff_not];omega)
  generalize parseP s=r at P Q
  obtain ⟨p,r1,r2,r3⟩:=r
  clear hg h3
  go_enter Tryz.func4,Tryz.ntmps4
  go_wp2_with fail
  refine P.out.mono ?_
  rintro e w1 ⟨v0,v1,v2,v3,zs,rfl,hpo,hb1⟩
  have HP:=Lib.hid hpo.pol
  obtain ⟨a0,c0,rfl⟩:=hpo.pol.rs.form
  obtain ⟨a1,c1,rfl⟩:=hpo.pol.rg.form
  obtain ⟨a2,c2,rfl⟩:=hpo.pol.rh.form
  obtain ⟨a3,c3,rfl⟩:=hpo.pol.rq.form
  have HT:=Lib.hid (TwoAt.new w1 #[.slice a0 p.l.length c0,.slice a1 p.g.length c1,.slice a2 p.h.length c2,.slice a3 zs.length c3] #[.int .i64 r1,.int .i64 r2,.int .i64 r3] 26 48)
  have HB1:=Lib.hid hb1
  clear hpo hb1 P
  dsimp only
  go_wp2_with fail
  obtain ⟨WX,hWX⟩:∃ X,X=(w1.alloc (.cells #[.slice a0 p.l.length c0,.slice a1 p.g.length c1,.slice a2 p.h.length c2,.slice a3 zs.length c3] 26)).alloc (.cells #[.int .i64 r1,.int .i64 r2,.int .i64 r3] 48):=⟨_,rfl⟩
  rw [← hWX] at HT ⊢
  clear hWX
  refine (Q.out _).mono ?_
  rintro e w2 ⟨u0,u1,u2,u3,us,rfl,hqo,hb2⟩
  have HQ:=Lib.hid hqo
  have HT:=Lib.hid (HT.out.later hb2)
  obtain ⟨b0,d0,rfl⟩:=hqo.rs.form
  obtain ⟨b1,d1',rfl⟩:=hqo.rg.form
  obtain ⟨b2,d2',rfl⟩:=hqo.rh.form
  obtain ⟨b3,d3,rfl⟩:=hqo.rq.form
  have HP:=Lib.hid (HP.out.below HT.out.low)
  have HU:=Lib.hid (TwoAt.new w2 #[.slice b0 p.l.length d0,.slice b1 p.g.length d1',.slice b2 p.h.length d2',.slice b3 us.length d3] #[.int .i64 r1,.int .i64 r2,.int .i64 r3] 26 48)
  have SM:=Lib.hid (fun W (hb:Below w2.heap.size w2 W)=>ref5_SameD _ _ _ _ _ _ _ _ p p zs us W (HP.out.below hb) (hqo.below hb))
  rw [sameD_iff.2 (rfl:p=p)] at SM
  clear hqo hb2 Q
  dsimp only
  obtain ⟨ca,fa,za⟩:=HT.out.a
  obtain ⟨cb,fb,zb⟩:=HT.out.b
  go_wp2_with fail
  clear ca fa za cb fb zb
  refine (SM.out _ HU.out.low).mono ?_
  rintro e w3 ⟨rfl,hb3⟩
  have HU:=Lib.hid (HU.out.later hb3)
  have HBW:=Lib.hid (HB1.out.trans ((HT.out.low.trans (HU.out.low.mono HT.out.low.size)).mono HB1.out.size))
  clear hb3 SM
  go_wp2_with fail
  refine (HL.out _ HBW.out).mono ?_
  rintro e w4 ⟨rfl,hb4⟩
  have HBX:=Lib.hid (HBW.out.trans (hb4.mono HBW.out.size))
  clear hb4
  go_wp2
  go_ret
  exact ⟨rfl,HBX.out⟩
end
section
open Go.ChangeShapes Go.WideShapes Go.ChangeAt Go.RowKit

section
variable {H:Type} {enc:TypeId × Value→H} {w:World} {base fuel n:Nat} {sp:Nat→Bool} {held:Bool} {cs:List Value} {x:DataW H × List MemPlace} {v:Value} {d:DataW H} {ps:List MemPlace}
def dStr (H:Type) (s:ByteArray):DataW H:=.lit (.string s.data.toList)
end
end
end Go.Proofs.YtomhekohcadijaaGreatDoor
