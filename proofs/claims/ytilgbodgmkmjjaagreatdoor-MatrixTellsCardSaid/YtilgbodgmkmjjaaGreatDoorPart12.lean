/- Parts: PolRight SimSat2 StDel LowMin -/
import Derived.Test.YtilgbodgmkmjjaaGreatDoorPart10
import Derived.Test.YtilgbodgmkmjjaaGreatDoorPart6
import Derived.Test.YtilgbodgmkmjjaaGreatDoorPart11
import Derived.Test.YtilgbodgmkmjjaaGreatDoorPart5
import Derived.Test.YtilgbodgmkmjjaaGreatDoorPart8
import Derived.Test.YtilgbodgmkmjjaaGreatDoorPart3
import Derived.Test.YtilgbodgmkmjjaaGreatDoorPart7
namespace Go.Proofs.YtilgbodgmkmjjaaGreatDoor
section
open Go.RowKit Go.Shelf

theorem pairwise_adj {α:Type} {c:α→α→Int} (ht:∀ x y z,c x y < 0→c y z < 0→c x z < 0) {l:List α} (h:∀ i (hi:i+1 < l.length),c l[i] l[i+1] < 0):l.Pairwise (fun x y=>c x y < 0):=by
 rw [List.pairwise_iff_getElem]
 have key:∀ d i (hi:i+d+1 < l.length),c l[i] l[i+d+1] < 0:=by
  intro d
  induction d with
  | zero=>intro i hi;exact h i hi
  | succ d ih=>intro i hi;exact ht _ _ _ (ih i (by omega)) (h (i+d+1) hi)
 intro i j hi hj hij
 obtain ⟨d,rfl⟩:∃ d,j=i+d+1:=⟨j - i - 1,by omega⟩
 exact key d i hj
def okR (l:List Rl) (i:Nat):Bool:=isRole (l.getD i noR) && (decide (i=0) || decide (cmpR (l.getD (i - 1) noR) (l.getD i noR) < 0))
def sortedR (l:List Rl):Bool:=(List.range l.length).all (okR l)
theorem getD_in {α:Type} {l:List α} {i:Nat} {d:α} (h:i < l.length):l.getD i d=l[i]:=by rw [List.getD_eq_getElem?_getD,List.getElem?_eq_getElem h];rfl
theorem sortedR_iff {l:List Rl}:sortedR l=true↔(∀ x∈l,isRole x=true)∧l=insAllR [] l:=by
 unfold sortedR
 rw [List.all_eq_true]
 constructor
 ·intro h
  have h':∀ i (hi:i < l.length),isRole l[i]=true∧(i=0∨cmpR (l.getD (i - 1) noR) l[i] < 0):=by
   intro i hi
   have:=h i (List.mem_range.2 hi)
   unfold okR at this
   rw [getD_in hi,Bool.and_eq_true,Bool.or_eq_true,decide_eq_true_iff,decide_eq_true_iff] at this
   exact this
  refine ⟨fun x hx=>?_,?_⟩
  ·obtain ⟨i,hi,rfl⟩:=List.getElem_of_mem hx
   exact (h' i hi).1
  ·refine (asc_ordR (pairwise_adj (c:=cmpR) (fun _ _ _=>lt_trans'R) (fun i hi=>?_))).symm
   rcases (h' (i+1) hi).2 with h0 | h0
   ·omega
   ·rw [show i+1 - 1=i by omega,getD_in (show i < l.length by omega)] at h0
    exact h0
 ·rintro ⟨h1,h2⟩ i hi
  have hi':=List.mem_range.1 hi
  unfold okR
  rw [getD_in hi',h1 _ (List.getElem_mem hi'),Bool.true_and,Bool.or_eq_true,decide_eq_true_iff,decide_eq_true_iff]
  by_cases h0:i=0
  ·exact .inl h0
  ·refine .inr ?_
   have ha:AscR l:=by rw [h2];exact ord_ascR l
   rw [getD_in (show i - 1 < l.length by omega)]
   exact List.pairwise_iff_getElem.1 ha (i - 1) i (by omega) hi' (by omega)
def okS (l:List St) (i:Nat):Bool:=rightS (l.getD i noS) && (decide (i=0) || decide (cmpSt (l.getD (i - 1) noS) (l.getD i noS) < 0))
def sortedS (l:List St):Bool:=(List.range l.length).all (okS l)
theorem lt_transSt {x y z:St} (h:cmpSt x y < 0) (h':cmpSt y z < 0):cmpSt x z < 0:=by
 have:=wcmp_st.le x y z (by omega) (by omega)
 omega
theorem sortedS_iff {l:List St}:sortedS l=true↔(∀ x∈l,rightS x=true)∧l=insAll [] l:=by
 unfold sortedS
 rw [List.all_eq_true]
 constructor
 ·intro h
  have h':∀ i (hi:i < l.length),rightS l[i]=true∧(i=0∨cmpSt (l.getD (i - 1) noS) l[i] < 0):=by
   intro i hi
   have:=h i (List.mem_range.2 hi)
   unfold okS at this
   rw [getD_in hi,Bool.and_eq_true,Bool.or_eq_true,decide_eq_true_iff,decide_eq_true_iff] at this
   exact this
  refine ⟨fun x hx=>?_,?_⟩
  ·obtain ⟨i,hi,rfl⟩:=List.getElem_of_mem hx
   exact (h' i hi).1
  ·refine (asc_ord (pairwise_adj (c:=cmpSt) (fun _ _ _=>lt_transSt) (fun i hi=>?_))).symm
   rcases (h' (i+1) hi).2 with h0 | h0
   ·omega
   ·rw [show i+1 - 1=i by omega,getD_in (show i < l.length by omega)] at h0
    exact h0
 ·rintro ⟨h1,h2⟩ i hi
  have hi':=List.mem_range.1 hi
  unfold okS
  rw [getD_in hi',h1 _ (List.getElem_mem hi'),Bool.true_and,Bool.or_eq_true,decide_eq_true_iff,decide_eq_true_iff]
  by_cases h0:i=0
  ·exact .inl h0
  ·refine .inr ?_
   have ha:Asc l:=by rw [h2];exact ord_asc l
   rw [getD_in (show i - 1 < l.length by omega)]
   exact List.pairwise_iff_getElem.1 ha (i - 1) i (by omega) hi' (by omega)
theorem all_range_no {f:Nat→Bool} {n k:Nat} (hk:k < n) (h:f k=false):(List.range n).all f=false:=by
 rw [List.all_eq_false]
 exact ⟨k,List.mem_range.2 hk,by rw [h];exact Bool.false_ne_true⟩
theorem all_range_yes {f:Nat→Bool} {n k:Nat} (hk:¬ k < n) (h:∀ j,j < k→f j=true):(List.range n).all f=true:=by
 rw [List.all_eq_true]
 intro j hj
 exact h j (by have:=List.mem_range.1 hj;omega)
structure RdAt2 (w0 w:World) (A:Array Value) (wx:World):Prop where
 a:Blk wx w.heap.size A
 low:Below w.heap.size w wx
 low0:Below w0.heap.size w0 wx
theorem RdAt2.later {w0 w wx w':World} {A:Array Value} (h:RdAt2 w0 w A wx) (hb:Below wx.heap.size wx w'):RdAt2 w0 w A w':=⟨h.a.below hb,h.low.trans (hb.mono h.low.size),h.low0.trans (hb.mono h.low0.size)⟩
theorem RdAt2.drew {w0 w wx:World} {A:Array Value} (h:RdAt2 w0 w A wx):RdAt2 w0 w A wx.drew:=h.later (below_drew (Below.refl _ _))
theorem syn_LessB (x y:Rl) (w:World):Calls Tryz.prog 219 #[rv x,rv y] w fun e w'=>e=.returned (.bool (decide (cmpR x y < 0)))∧Below w.heap.size w w':=syn_Less x y w
theorem syn_OrderB (s t:St) (w:World):Calls Tryz.prog 149 #[sv s,sv t] w fun e w'=>e=.returned (.int .i64 (cmpSt s t))∧Below w.heap.size w w':=(syn_Order s t w).mono fun _ _ ⟨he,hg⟩=>⟨he,hg.below⟩
set_option maxRecDepth 100000 in
set_option maxHeartbeats 4000000 in
theorem policy_sorted (v:Value) (l:List Rl) (w:World) (ha:SlA w 2 v l.length (l.flatMap Rl.cells)) (hle:∀ x∈l,x.le 4294967):Calls Tryz.prog 152 #[v] w fun e w'=>e=.returned (.bool (sortedR l))∧Below w.heap.size w w':=by
 have HA:=Lib.hid ha
 have HLE:=Lib.hid hle
 have hmax:=ha.max
 obtain ⟨ao,ac,rfl⟩:=ha.form
 clear ha hle
 have RY:=Lib.hid (fun k (hk:¬ k < l.length) (h:∀ j,j < k→okR l j=true)=>show sortedR l=true from all_range_yes hk h)
 have RN:=Lib.hid (fun k (hk:k < l.length) (h:okR l k=false)=>show sortedR l=false from all_range_no hk h)
 generalize sortedR l=res at RY RN ⊢
 go_enter Tryz.func152,Tryz.ntmps152
 go_wp2_with fail
 go_loopw [7] (fun i wr => ∃ k:Nat,k≤l.length∧i=.int .i64 k∧Hid (Below w.heap.size w wr)∧Hid (∀ j,j < k→okR l j=true)) (fun i _=>l.length - (intOf i).toNat)
 case atStart=>exact ⟨0,by omega,rfl,Lib.hid (Below.refl _ _),Lib.hid (fun j h=>absurd h (by omega))⟩
 case round =>
  obtain ⟨k,hk,rfl,HB,HJ⟩:=hrel
  by_cases hlt:k < l.length
  ·obtain ⟨b1,o1,c1,he1,hc1,hm1,hb1,hx1⟩:=HA.out.pos (by omega)
   simp only [Value.slice.injEq,true_and] at he1
   obtain ⟨rfl,rfl⟩:=he1
   have HXW:=Lib.hid (fun j u hu=>(HB.out.cell (p:=⟨b1,o1+j,none⟩) hb1).trans (hx1 j u hu))
   obtain ⟨p0,p1⟩:=rl_cell (w:=wr) HXW.out k hlt
   have hbr:b1 < wr.heap.size:=Nat.lt_of_lt_of_le hb1 HB.out.size
   have IR:=Lib.hid (fun W=>syn_IsRole l[k] W (HLE.out _ (List.getElem_mem hlt)))
   have HOK:=Lib.hid (show okR l k=(isRole l[k] && (decide (k=0) || decide (cmpR (l.getD (k - 1) noR) l[k] < 0))) by unfold okR;rw [getD_in hlt])
   have HJS:Hid (okR l k=true→∀ j,j < k+1→okR l j=true):=Lib.hid (fun h j hj=>by
    by_cases e:j=k
    ·rw [e];exact h
    ·exact HJ.out j (by omega))
   have HNO:=Lib.hid (fun (h:okR l k=false)=>RN.out k hlt h)
   have HT1:=Lib.hid (show RdAt2 wr wr #[.string l[k].o,.string l[k].n] (wr.alloc (.cells #[.string l[k].o,.string l[k].n] 28)) from ⟨Blk.new _ _ _,(Below.refl _ _).alloc (Nat.le_refl _) _,(Below.refl _ _).alloc (Nat.le_refl _) _⟩)
   clear hx1
   generalize isRole l[k]=ri at IR HOK
   by_cases hk0:k=0
   ·have dk:decide (0 < k)=false:=by (rw [decide_eq_false_iff_not];omega)
    rw [decide_eq_true hk0,Bool.true_or,Bool.and_true] at HOK
    clear hk0
    generalize l[k]=x at *
    obtain ⟨x1,x2⟩:=x
    cases ri with
    | false =>
     have R:=Lib.hid (HNO.out HOK.out)
     go_wp2_with fail
     refine wp_region_held_drew (S:=(fun W => ∀ o,W.cell? ⟨wr.heap.size,o,none⟩=(#[.string x1,.string x2]:Array Value)[o]?)) (by kernel_rfl) HT1.out.drew.a.1 (fun hHeld=>?_)
     have HT:=HT1.out.drew
     obtain ⟨wk,hwk⟩:∃ W,W=(wr.alloc (.cells #[.string x1,.string x2] 28)).drew:=⟨_,rfl⟩
     rw [← hwk] at HT hHeld ⊢
     clear hwk
     (refine hyes 0 ?_);(try simp only [Act.put,List.setIfInBounds_toArray,List.set])
     (refine held_call 1 rfl (by kernel_rfl) (fun K hK=>?_);go_simp)
     go_at_call 216;refine (IR.out _).mono ?_;rintro e wz1 ⟨rfl,hbq⟩
     have HT:=HT.later hbq
     clear hbq
     (refine hK.out _ _ (HT.a.1) (fun hHeld=>?_);clear hK K;(try simp only [Act.put,List.setIfInBounds_toArray,List.set]))
     (refine hyes 2 ?_);(refine hyes 3 ?_);(try simp only [Act.put,List.setIfInBounds_toArray,List.set])
     (refine hno 4 ?_);(try simp only [Act.put,List.setIfInBounds_toArray,List.set])
     (refine hno 5 ?_);(try simp only [Act.put,List.setIfInBounds_toArray,List.set])
     (refine hno 6 ?_);(try simp only [Act.put,List.setIfInBounds_toArray,List.set])
     (refine hno 7 ?_);(refine hno 8 ?_);(refine hno 12 ?_);(try simp only [Act.put,List.setIfInBounds_toArray,List.set])
     (refine hno 9 ?_);(try simp only [Act.put,List.setIfInBounds_toArray,List.set])
     (refine hno 10 ?_);(try simp only [Act.put,List.setIfInBounds_toArray,List.set])
     (refine hno 11 ?_);(try simp only [Act.put,List.setIfInBounds_toArray,List.set])
     (refine hno 13 ?_);(try simp only [Act.put,List.setIfInBounds_toArray,List.set])
     (refine hno 14 ?_);(try simp only [Act.put,List.setIfInBounds_toArray,List.set])
     (refine hno 15 ?_);(try simp only [Act.put,List.setIfInBounds_toArray,List.set])
     (refine hyes 16 ?_);(try simp only [Act.put,List.setIfInBounds_toArray,List.set])
     refine wpAnyH_done (by kernel_rfl) ?_ _
     have HTr:=Lib.hid HT
     clear HT
     go_wp2_with fail
     go_ret
     exact ⟨ret_b R.out.symm,HB.out.trans (HTr.out.low.mono HB.out.size)⟩
    | true =>
     have HS:=Lib.hid (HJS.out HOK.out)
     go_wp2_with fail
     refine wp_region_held_drew (S:=(fun W => ∀ o,W.cell? ⟨wr.heap.size,o,none⟩=(#[.string x1,.string x2]:Array Value)[o]?)) (by kernel_rfl) HT1.out.drew.a.1 (fun hHeld=>?_)
     have HT:=HT1.out.drew
     obtain ⟨wk,hwk⟩:∃ W,W=(wr.alloc (.cells #[.string x1,.string x2] 28)).drew:=⟨_,rfl⟩
     rw [← hwk] at HT hHeld ⊢
     clear hwk
     (refine hyes 0 ?_);(try simp only [Act.put,List.setIfInBounds_toArray,List.set])
     (refine held_call 1 rfl (by kernel_rfl) (fun K hK=>?_);go_simp)
     go_at_call 216;refine (IR.out _).mono ?_;rintro e wz1 ⟨rfl,hbq⟩
     have HT:=HT.later hbq
     clear hbq
     (refine hK.out _ _ (HT.a.1) (fun hHeld=>?_);clear hK K;(try simp only [Act.put,List.setIfInBounds_toArray,List.set]))
     (refine hyes 2 ?_);(refine hyes 3 ?_);(refine hyes 4 ?_);(refine hyes 5 ?_);(refine hyes 6 ?_);(try simp only [Act.put,List.setIfInBounds_toArray,List.set])
     (refine hno 7 ?_);(refine hno 8 ?_);(refine hno 12 ?_);(try simp only [Act.put,List.setIfInBounds_toArray,List.set])
     (refine hno 9 ?_);(try simp only [Act.put,List.setIfInBounds_toArray,List.set])
     (refine hno 10 ?_);(try simp only [Act.put,List.setIfInBounds_toArray,List.set])
     (refine hno 11 ?_);(try simp only [Act.put,List.setIfInBounds_toArray,List.set])
     (refine hno 13 ?_);(try simp only [Act.put,List.setIfInBounds_toArray,List.set])
     (refine hno 14 ?_);(try simp only [Act.put,List.setIfInBounds_toArray,List.set])
     (refine hyes 15 ?_);(refine hyes 16 ?_);(try simp only [Act.put,List.setIfInBounds_toArray,List.set])
     refine wpAnyH_done (by kernel_rfl) ?_ _
     have HTr:=Lib.hid HT
     clear HT
     go_wp2_with fail
     exact ⟨⟨k+1,by omega,by go_num,Lib.hid (HB.out.trans (HTr.out.low.mono HB.out.size)),HS⟩,by simp [intOf];omega⟩
   ·obtain ⟨m,hm⟩:∃ m,k=m+1:=⟨k - 1,by omega⟩
    have dk:decide (0 < k)=true:=by (rw [decide_eq_true_iff];omega)
    have hw1:IntKind.i64.wrap ((k:Int) - 1)=(m:Int):=by rw [show (k:Int) - 1=(m:Int) by omega];exact Go.IntWalk.i64_in _ (by omega)
    have hml:m < l.length:=by omega
    have hmi:(0:Int)≤(m:Int):=by omega
    obtain ⟨q0,q1⟩:=rl_cell (w:=wr) HXW.out m hml
    rw [decide_eq_false hk0,Bool.false_or,show k - 1=m by omega,getD_in hml] at HOK
    have LS:=Lib.hid (fun W=>syn_LessB l[m] l[k] W)
    generalize hcm:decide (cmpR l[m] l[k] < 0)=cm at *
    clear hcm hk0 hm
    generalize l[k]=x at *
    obtain ⟨x1,x2⟩:=x
    generalize l[m]=y at *
    obtain ⟨y1,y2⟩:=y
    cases ri with
    | false =>
     have R:=Lib.hid (HNO.out (by rw [HOK.out];rfl))
     go_wp2_with fail
     refine wp_region_held_drew (S:=(fun W => ∀ o,W.cell? ⟨wr.heap.size,o,none⟩=(#[.string x1,.string x2]:Array Value)[o]?)) (by kernel_rfl) HT1.out.drew.a.1 (fun hHeld=>?_)
     have HT:=HT1.out.drew
     obtain ⟨wk,hwk⟩:∃ W,W=(wr.alloc (.cells #[.string x1,.string x2] 28)).drew:=⟨_,rfl⟩
     rw [← hwk] at HT hHeld ⊢
     clear hwk
     (refine hyes 0 ?_);(try simp only [Act.put,List.setIfInBounds_toArray,List.set])
     (refine held_call 1 rfl (by kernel_rfl) (fun K hK=>?_);go_simp)
     go_at_call 216;refine (IR.out _).mono ?_;rintro e wz1 ⟨rfl,hbq⟩
     have HT:=HT.later hbq
     clear hbq
     (refine hK.out _ _ (HT.a.1) (fun hHeld=>?_);clear hK K;(try simp only [Act.put,List.setIfInBounds_toArray,List.set]))
     (refine hyes 2 ?_);(refine hyes 3 ?_);(try simp only [Act.put,List.setIfInBounds_toArray,List.set])
     (refine hno 4 ?_);(try simp only [Act.put,List.setIfInBounds_toArray,List.set])
     (refine hno 5 ?_);(try simp only [Act.put,List.setIfInBounds_toArray,List.set])
     (refine hno 6 ?_);(try simp only [Act.put,List.setIfInBounds_toArray,List.set])
     (refine hno 7 ?_);(refine hno 8 ?_);(refine hno 12 ?_);(try simp only [Act.put,List.setIfInBounds_toArray,List.set])
     (refine hno 9 ?_);(try simp only [Act.put,List.setIfInBounds_toArray,List.set])
     (refine hno 10 ?_);(try simp only [Act.put,List.setIfInBounds_toArray,List.set])
     (refine hno 11 ?_);(try simp only [Act.put,List.setIfInBounds_toArray,List.set])
     (refine hno 13 ?_);(try simp only [Act.put,List.setIfInBounds_toArray,List.set])
     (refine hno 14 ?_);(try simp only [Act.put,List.setIfInBounds_toArray,List.set])
     (refine hno 15 ?_);(try simp only [Act.put,List.setIfInBounds_toArray,List.set])
     (refine hyes 16 ?_);(try simp only [Act.put,List.setIfInBounds_toArray,List.set])
     refine wpAnyH_done (by kernel_rfl) ?_ _
     have HTr:=Lib.hid HT
     clear HT
     go_wp2_with fail
     go_ret
     exact ⟨ret_b R.out.symm,HB.out.trans (HTr.out.low.mono HB.out.size)⟩
    | true =>
     cases cm with
     | false =>
      have R:=Lib.hid (HNO.out (by rw [HOK.out];rfl))
      go_wp2_with fail
      refine wp_region_held_drew (S:=(fun W=>(∀ o,W.cell? ⟨wr.heap.size,o,none⟩=(#[.string x1,.string x2]:Array Value)[o]?)∧W.cell? ⟨b1,o1+m * 2,none⟩=some (.string y1)∧W.cell? ⟨b1,o1+m * 2+1,none⟩=some (.string y2))) (by kernel_rfl) ⟨HT1.out.drew.a.1,(HT1.out.drew.low0.cell (p:=⟨b1,o1+m * 2,none⟩) hbr).trans q0,(HT1.out.drew.low0.cell (p:=⟨b1,o1+m * 2+1,none⟩) hbr).trans q1⟩ (fun hHeld=>?_)
      have HT:=HT1.out.drew
      obtain ⟨wk,hwk⟩:∃ W,W=(wr.alloc (.cells #[.string x1,.string x2] 28)).drew:=⟨_,rfl⟩
      rw [← hwk] at HT hHeld ⊢
      clear hwk
      (refine hyes 0 ?_);(try simp only [Act.put,List.setIfInBounds_toArray,List.set])
      (refine held_call 1 rfl (by kernel_rfl) (fun K hK=>?_);go_simp)
      go_at_call 216;refine (IR.out _).mono ?_;rintro e wz1 ⟨rfl,hbq⟩
      have HT:=HT.later hbq
      clear hbq
      (refine hK.out _ _ (⟨HT.a.1,(HT.low0.cell (p:=⟨b1,o1+m * 2,none⟩) hbr).trans q0,(HT.low0.cell (p:=⟨b1,o1+m * 2+1,none⟩) hbr).trans q1⟩) (fun hHeld=>?_);clear hK K;(try simp only [Act.put,List.setIfInBounds_toArray,List.set]))
      (refine hyes 2 ?_);(refine hyes 3 ?_);(refine hyes 4 ?_);(refine hyes 5 ?_);(refine hyes 6 ?_);(refine hyes 7 ?_);(refine hyes 8 ?_);(refine hyes 9 ?_);(refine hyes 10 ?_);(refine hyes 11 ?_);(refine hyes 12 ?_);(try simp only [Act.put,List.setIfInBounds_toArray,List.set])
      (refine held_call 13 rfl (by kernel_rfl) (fun K hK=>?_);go_simp)
      go_at_call 219;refine (LS.out _).mono ?_;rintro e wz13 ⟨rfl,hbq⟩
      have HT:=HT.later hbq
      clear hbq
      (refine hK.out _ _ (⟨HT.a.1,(HT.low0.cell (p:=⟨b1,o1+m * 2,none⟩) hbr).trans q0,(HT.low0.cell (p:=⟨b1,o1+m * 2+1,none⟩) hbr).trans q1⟩) (fun hHeld=>?_);clear hK K;(try simp only [Act.put,List.setIfInBounds_toArray,List.set]))
      (refine hyes 14 ?_);(refine hyes 15 ?_);(refine hyes 16 ?_);(try simp only [Act.put,List.setIfInBounds_toArray,List.set])
      refine wpAnyH_done (by kernel_rfl) ?_ _
      have HTr:=Lib.hid HT
      clear HT
      go_wp2_with fail
      go_ret
      exact ⟨ret_b R.out.symm,HB.out.trans (HTr.out.low.mono HB.out.size)⟩
     | true =>
      have HS:=Lib.hid (HJS.out (by rw [HOK.out];rfl))
      go_wp2_with fail
      refine wp_region_held_drew (S:=(fun W=>(∀ o,W.cell? ⟨wr.heap.size,o,none⟩=(#[.string x1,.string x2]:Array Value)[o]?)∧W.cell? ⟨b1,o1+m * 2,none⟩=some (.string y1)∧W.cell? ⟨b1,o1+m * 2+1,none⟩=some (.string y2))) (by kernel_rfl) ⟨HT1.out.drew.a.1,(HT1.out.drew.low0.cell (p:=⟨b1,o1+m * 2,none⟩) hbr).trans q0,(HT1.out.drew.low0.cell (p:=⟨b1,o1+m * 2+1,none⟩) hbr).trans q1⟩ (fun hHeld=>?_)
      have HT:=HT1.out.drew
      obtain ⟨wk,hwk⟩:∃ W,W=(wr.alloc (.cells #[.string x1,.string x2] 28)).drew:=⟨_,rfl⟩
      rw [← hwk] at HT hHeld ⊢
      clear hwk
      (refine hyes 0 ?_);(try simp only [Act.put,List.setIfInBounds_toArray,List.set])
      (refine held_call 1 rfl (by kernel_rfl) (fun K hK=>?_);go_simp)
      go_at_call 216;refine (IR.out _).mono ?_;rintro e wz1 ⟨rfl,hbq⟩
      have HT:=HT.later hbq
      clear hbq
      (refine hK.out _ _ (⟨HT.a.1,(HT.low0.cell (p:=⟨b1,o1+m * 2,none⟩) hbr).trans q0,(HT.low0.cell (p:=⟨b1,o1+m * 2+1,none⟩) hbr).trans q1⟩) (fun hHeld=>?_);clear hK K;(try simp only [Act.put,List.setIfInBounds_toArray,List.set]))
      (refine hyes 2 ?_);(refine hyes 3 ?_);(refine hyes 4 ?_);(refine hyes 5 ?_);(refine hyes 6 ?_);(refine hyes 7 ?_);(refine hyes 8 ?_);(refine hyes 9 ?_);(refine hyes 10 ?_);(refine hyes 11 ?_);(refine hyes 12 ?_);(try simp only [Act.put,List.setIfInBounds_toArray,List.set])
      (refine held_call 13 rfl (by kernel_rfl) (fun K hK=>?_);go_simp)
      go_at_call 219;refine (LS.out _).mono ?_;rintro e wz13 ⟨rfl,hbq⟩
      have HT:=HT.later hbq
      clear hbq
      (refine hK.out _ _ (⟨HT.a.1,(HT.low0.cell (p:=⟨b1,o1+m * 2,none⟩) hbr).trans q0,(HT.low0.cell (p:=⟨b1,o1+m * 2+1,none⟩) hbr).trans q1⟩) (fun hHeld=>?_);clear hK K;(try simp only [Act.put,List.setIfInBounds_toArray,List.set]))
      (refine hyes 14 ?_);(refine hyes 15 ?_);(refine hyes 16 ?_);(try simp only [Act.put,List.setIfInBounds_toArray,List.set])
      refine wpAnyH_done (by kernel_rfl) ?_ _
      have HTr:=Lib.hid HT
      clear HT
      go_wp2_with fail
      exact ⟨⟨k+1,by omega,by go_num,Lib.hid (HB.out.trans (HTr.out.low.mono HB.out.size)),HS⟩,by simp [intOf];omega⟩
  ·have R:=Lib.hid (RY.out k hlt HJ.out)
   go_wp2_with fail
   go_ret
   exact ⟨ret_b R.out.symm,HB.out⟩
theorem rightP_iff {l:List St} {g h:List Rl} {qs:List Qv} {F:Qv→List ByteArray}:RightP l g h qs F↔sortedS l=true∧sortedR g=true∧sortedR h=true∧qs.any (fun q => !rightQ q (F q))=false∧fitsP l g h qs F=true:=by
 unfold RightP
 rw [sortedS_iff,sortedR_iff,sortedR_iff,List.any_eq_false]
 constructor
 ·rintro ⟨h1,h2,h3,h4,h5,h6,h7⟩
  exact ⟨⟨h1,h4⟩,⟨fun x hx=>h2 x (List.mem_append.2 (.inl hx)),h5⟩,⟨fun x hx=>h2 x (List.mem_append.2 (.inr hx)),h6⟩,fun q hq=>by rw [h3 q hq];exact Bool.false_ne_true,h7⟩
 ·rintro ⟨⟨h1,h4⟩,⟨h2,h5⟩,⟨h2',h6⟩,h3,h7⟩
  refine ⟨h1,fun x hx=>(List.mem_append.1 hx).elim (h2 x) (h2' x),fun q hq=>?_,h4,h5,h6,h7⟩
  have:=h3 q hq
  cases hr:rightQ q (F q) with
  | true=>rfl
  | false=>rw [hr] at this;exact absurd rfl this
set_option maxRecDepth 100000 in
set_option maxHeartbeats 4000000 in
theorem policy_FitsL (v0 v1 v2 v3:Value) (l:List St) (g h:List Rl) (qs:List Qv) (w:World) (hp:PolAt w v0 v1 v2 v3 l g h qs) (hl:l.length≤80) (hg:g.length≤40) (hh:h.length≤40) (hq:qs.length≤100) (F:Qv→List ByteArray) (hF:WhoF w qs F) :
  Calls Tryz.prog 154 #[pv v0 v1 v2 v3] w fun e w'=>e=.returned (.bool (fitsP l g h qs F))∧Below w.heap.size w w':=by
 have PR:=Lib.hid (fun W (hb:Below w.heap.size w W)=>policy_Prins v0 v1 v2 v3 l g h qs W (hp.below hb) (by omega) (by omega) (by omega) hq F (hF.below hb))
 have NA:=Lib.hid (fun W (hb:Below w.heap.size w W)=>policy_Names v0 v1 v2 v3 l g h qs W (hp.below hb) (by omega) (by omega) (by omega) hq)
 have RES:=Lib.hid (show fitsP l g h qs F=(decide (qs.length≤16) && (decide ((newB (allPrins l g h qs F)).length≤16) && decide ((newB (allNames l g h qs)).length≤12))) from rfl)
 generalize fitsP l g h qs F=res at RES ⊢
 generalize newB (allPrins l g h qs F)=PS at *
 generalize newB (allNames l g h qs)=NS at *
 obtain ⟨a0,c0,rfl⟩:=hp.rs.form
 obtain ⟨a1,c1,rfl⟩:=hp.rg.form
 obtain ⟨a2,c2,rfl⟩:=hp.rh.form
 obtain ⟨a3,c3,rfl⟩:=hp.rq.form
 have HT:=Lib.hid (show OneAt w #[.slice a0 l.length c0,.slice a1 g.length c1,.slice a2 h.length c2,.slice a3 qs.length c3] (w.alloc (.cells #[.slice a0 l.length c0,.slice a1 g.length c1,.slice a2 h.length c2,.slice a3 qs.length c3] 26)) from ⟨Blk.new w _ _,(Below.refl _ _).alloc (Nat.le_refl _) _⟩)
 have d0:decide ((l.length:Int)≤80)=true:=decide_eq_true (by omega)
 have d1:decide ((g.length:Int)≤40)=true:=decide_eq_true (by omega)
 have d2:decide ((h.length:Int)≤40)=true:=decide_eq_true (by omega)
 clear hp hF
 go_enter Tryz.func154,Tryz.ntmps154
 by_cases t3:qs.length≤16
 ·have d3:decide ((qs.length:Int)≤16)=true:=decide_eq_true (by omega)
  rw [decide_eq_true t3,Bool.true_and] at RES
  go_wp2_with fail
  refine (PR.out _ HT.out.low).mono ?_
  rintro e w1 ⟨vp,rfl,ho1,_,hb1⟩
  obtain ⟨pa,pc,rfl⟩:=own_form ho1
  have HT:=Lib.hid (HT.out.later hb1)
  clear ho1 hb1 PR
  by_cases t6:PS.length≤16
  ·have d6:decide ((PS.length:Int)≤16)=true:=decide_eq_true (by omega)
   rw [decide_eq_true t6,Bool.true_and] at RES
   obtain ⟨ca,fa,za⟩:=HT.out.a
   go_wp2_with fail
   refine (NA.out _ HT.out.low).mono ?_
   rintro e w2 ⟨vn,rfl,ho2,_,hb2⟩
   obtain ⟨na,nc,rfl⟩:=own_form ho2
   have HT:=Lib.hid (HT.out.later hb2)
   clear ho2 hb2 NA ca fa za
   by_cases t7:NS.length≤12
   ·have d7:decide ((NS.length:Int)≤12)=true:=decide_eq_true (by omega)
    have R:=Lib.hid (show res=true by rw [RES.out,decide_eq_true t7])
    go_wp2_with fail
    go_ret
    exact ⟨ret_b R.out.symm,HT.out.low⟩
   ·have d7:decide ((NS.length:Int)≤12)=false:=decide_eq_false (by omega)
    have R:=Lib.hid (show res=false by rw [RES.out,decide_eq_false t7])
    go_wp2_with fail
    go_ret
    exact ⟨ret_b R.out.symm,HT.out.low⟩
  ·have d6:decide ((PS.length:Int)≤16)=false:=decide_eq_false (by omega)
   have R:=Lib.hid (show res=false by rw [RES.out,decide_eq_false t6];rfl)
   go_wp2_with fail
   go_ret
   exact ⟨ret_b R.out.symm,HT.out.low⟩
 ·have d3:decide ((qs.length:Int)≤16)=false:=decide_eq_false (by omega)
  have R:=Lib.hid (show res=false by rw [RES.out,decide_eq_false t3];rfl)
  go_wp2_with fail
  go_ret
  exact ⟨ret_b R.out.symm,HT.out.low⟩
set_option maxHeartbeats 1000000 in
theorem policy_Right1 (q:Qv) (us:List ByteArray) (w:World) (hla:q.a.le 4294967) (hlb:q.b.le 4294967) (hu1:SlA w 1 q.w us.length (strs us)) (hu3:∀ s∈us,s.size≤9223372036854775807):Calls Tryz.prog 150 #[qv q] w fun e w'=>e=.returned (.bool (!rightQ q us))∧Below w.heap.size w w':=by
 have QR:=Lib.hid (fun W (hb:Below w.heap.size w W)=>query_RightL q us W hla hlb (hu1.below hb) hu3)
 generalize rightQ q us=r at *
 obtain ⟨xk,⟨x1,x2⟩,⟨x3,x4⟩,wv⟩:=q
 obtain ⟨wo,wc,hwv⟩:=hu1.form
 dsimp only at hwv
 subst hwv
 have HB:=Lib.hid ((Below.refl _ w).alloc (Nat.le_refl _) (.cells #[.int .i64 xk,.string x1,.string x2,.string x3,.string x4,.slice wo us.length wc] 50))
 clear hu1
 go_enter Tryz.func150,Tryz.ntmps150
 go_wp2_with fail
 refine (QR.out _ HB.out).mono ?_
 rintro e w1 ⟨rfl,hb1⟩
 have HB1:=Lib.hid (HB.out.trans (hb1.mono HB.out.size))
 clear hb1
 go_wp2
 go_ret
 exact ⟨rfl,HB1.out⟩
set_option maxRecDepth 100000 in
set_option maxHeartbeats 8000000 in
theorem policy_RightL (v0 v1 v2 v3:Value) (l:List St) (g h:List Rl) (qs:List Qv) (w:World) (hp:PolAt w v0 v1 v2 v3 l g h qs) (hl:l.length≤80) (hg:g.length≤40) (hh:h.length≤40) (hq:qs.length≤100) (hl4:allLe l 4294967) (hgh:∀ x∈g++h,x.le 4294967) (hqr:∀ q∈qs,q.a.le 4294967∧q.b.le 4294967)
  (F:Qv→List ByteArray) (hF:WhoF w qs F) (hFs:∀ q∈qs,∀ s∈F q,s.size≤9223372036854775807) :
  Calls Tryz.prog 66 #[pv v0 v1 v2 v3] w fun e w'=>RightI l g h qs F e∧Below w.heap.size w w':=by
 have eg:∀ args w,(callFunc 150 args).run Tryz.prog w=.ok (.enter 150 args) w:=enters_of Tryz.func150 (by kernel_rfl) rfl
 have FI:=Lib.hid (fun W (hb:Below w.heap.size w W)=>policy_FitsL v0 v1 v2 v3 l g h qs W (hp.below hb) hl hg hh hq F (hF.below hb))
 have SG:=Lib.hid (fun W (hb:Below w.heap.size w W)=>policy_sorted v1 g W (hp.rg.below hb) (fun x hx=>hgh x (List.mem_append.2 (.inl hx))))
 have SH:=Lib.hid (fun W (hb:Below w.heap.size w W)=>policy_sorted v2 h W (hp.rh.below hb) (fun x hx=>hgh x (List.mem_append.2 (.inr hx))))
 have CF:=Lib.hid (fun W (hb:Below w.heap.size w W)=>q_ContainsFunc v3 qs W (hp.rq.below hb) 150 #[] (fun q => !rightQ q (F q)) eg (fun x V hx hV=>by
  simpa using policy_Right1 x (F x) V (hqr x hx).1 (hqr x hx).2 ((hF x hx).1.below (hb.trans (hV.mono hb.size))) (hFs x hx)))
 have HL:=Lib.hid hp.rs
 have HL4:=Lib.hid hl4
 have hmax:=hp.rs.max
 have RY:=Lib.hid (fun k (hk:¬ k < l.length) (h:∀ j,j < k→okS l j=true)=>show sortedS l=true from all_range_yes hk h)
 have RN:=Lib.hid (fun k (hk:k < l.length) (h:okS l k=false)=>show sortedS l=false from all_range_no hk h)
 have HI:=Lib.hid (rightP_iff (l:=l) (g:=g) (h:=h) (qs:=qs) (F:=F))
 have IFF:=Lib.hid (show ∀ b:Bool,(b=true↔RightP l g h qs F)→RightI l g h qs F (.returned (.bool b)) from fun b h=>⟨b,rfl,h⟩)
 have HN0:=Lib.hid (show ∀ (_:sortedS l=false),RightI l g h qs F (.returned (.bool false)) from fun hf=>IFF.out false ⟨(fun e=>by cases e),fun hr=>by have:=(HI.out.1 hr).1;rw [hf] at this;cases this⟩)
 generalize sortedS l=s0 at *
 generalize sortedR g=s1 at *
 generalize sortedR h=s2 at *
 generalize qs.any (fun q => !rightQ q (F q))=s3 at *
 generalize fitsP l g h qs F=s4 at *
 obtain ⟨a0,c0,rfl⟩:=hp.rs.form
 obtain ⟨a1,c1,rfl⟩:=hp.rg.form
 obtain ⟨a2,c2,rfl⟩:=hp.rh.form
 obtain ⟨a3,c3,rfl⟩:=hp.rq.form
 have HT:=Lib.hid (show OneAt w #[.slice a0 l.length c0,.slice a1 g.length c1,.slice a2 h.length c2,.slice a3 qs.length c3] (w.alloc (.cells #[.slice a0 l.length c0,.slice a1 g.length c1,.slice a2 h.length c2,.slice a3 qs.length c3] 26)) from ⟨Blk.new w _ _,(Below.refl _ _).alloc (Nat.le_refl _) _⟩)
 clear hp hF eg hl4 hgh hqr hFs
 go_enter Tryz.func66,Tryz.ntmps66
 go_wp2_with fail
 go_loopw [9] (fun i wr => ∃ k:Nat,k≤l.length∧i=.int .i64 k∧Hid (OneAt w #[.slice a0 l.length c0,.slice a1 g.length c1,.slice a2 h.length c2,.slice a3 qs.length c3] wr)∧Hid (∀ j,j < k→okS l j=true)) (fun i _=>l.length - (intOf i).toNat)
 case atStart=>exact ⟨0,by omega,rfl,HT,Lib.hid (fun j h=>absurd h (by omega))⟩
 case round =>
  clear HT
  obtain ⟨k,hk,rfl,HT0,HJ⟩:=hrel
  by_cases hlt:k < l.length
  ·obtain ⟨b1,o1,c1',he1,hc1,hm1,hb1,hx1⟩:=HL.out.pos (by omega)
   simp only [Value.slice.injEq,true_and] at he1
   obtain ⟨rfl,rfl⟩:=he1
   have HXW:=Lib.hid (fun j u hu=>(HT0.out.low.cell (p:=⟨b1,o1+j,none⟩) hb1).trans (hx1 j u hu))
   have HXL:=Lib.hid hx1
   obtain ⟨p0,p1,p2,p3,p4,p5,p6,p7,p8⟩:=st_cell (w:=wr) HXW.out k hlt
   have hbr:b1 < wr.heap.size:=Nat.lt_of_lt_of_le hb1 HT0.out.low.size
   have RI:=Lib.hid (fun W=>syn_Right l[k] W (HL4.out _ (List.getElem_mem hlt)))
   have HOK:=Lib.hid (show okS l k=(rightS l[k] && (decide (k=0) || decide (cmpSt (l.getD (k - 1) noS) l[k] < 0))) by unfold okS;rw [getD_in hlt])
   have HJS:Hid (okS l k=true→∀ j,j < k+1→okS l j=true):=Lib.hid (fun h j hj=>by
    by_cases e:j=k
    ·rw [e];exact h
    ·exact HJ.out j (by omega))
   have HNO:=Lib.hid (fun (h:okS l k=false)=>HN0.out (RN.out k hlt h))
   clear hx1
   generalize rightS l[k]=ri at RI HOK
   by_cases hk0:k=0
   ·have dk:decide (0 < k)=false:=by (rw [decide_eq_false_iff_not];omega)
    rw [decide_eq_true hk0,Bool.true_or,Bool.and_true] at HOK
    clear hk0
    generalize l[k]=x at *
    obtain ⟨xk,⟨x1,x2⟩,xw,⟨x3,x4⟩,⟨x5,x6⟩,xv⟩:=x
    have hba:Below wr.heap.size wr (wr.alloc (.cells #[.int .i64 xk,.string x1,.string x2,.string xw,.string x3,.string x4,.string x5,.string x6,.string xv] 74)):=(Below.refl _ _).alloc (Nat.le_refl _) _
    have HT1:=Lib.hid (HT0.out.later hba)
    have HX1:=Lib.hid (Blk.new wr #[.int .i64 xk,.string x1,.string x2,.string xw,.string x3,.string x4,.string x5,.string x6,.string xv] 74)
    clear hba
    cases ri with
    | false =>
     have R:=Lib.hid (HNO.out HOK.out)
     go_wp2_with fail
     refine wp_region_held_drew (S:=(fun W=>(∀ o,W.cell? ⟨w.heap.size,o,none⟩=(#[.slice (some ⟨b1,o1,none⟩) l.length c0,.slice a1 g.length c1,.slice a2 h.length c2,.slice a3 qs.length c3]:Array Value)[o]?)∧(∀ o,W.cell? ⟨wr.heap.size,o,none⟩=(#[.int .i64 xk,.string x1,.string x2,.string xw,.string x3,.string x4,.string x5,.string x6,.string xv]:Array Value)[o]?))) (by kernel_rfl) ⟨HT1.out.drew.a.1,(HX1.out.below (below_drew (Below.refl _ _))).1⟩ (fun hHeld=>?_)
     have HT:=HT1.out.drew
     have HX:=HX1.out.below (below_drew (Below.refl _ _))
     obtain ⟨wk,hwk⟩:∃ W,W=(wr.alloc (.cells #[.int .i64 xk,.string x1,.string x2,.string xw,.string x3,.string x4,.string x5,.string x6,.string xv] 74)).drew:=⟨_,rfl⟩
     rw [← hwk] at HT HX hHeld ⊢
     clear hwk
     (refine hyes 0 ?_);(try simp only [Act.put,List.setIfInBounds_toArray,List.set])
     (refine held_call 1 rfl (by kernel_rfl) (fun K hK=>?_);go_simp)
     go_at_call 148;refine (RI.out _).mono ?_;rintro e wz1 ⟨rfl,hbq⟩
     have HT:=HT.later hbq
     have HX:=HX.below hbq
     clear hbq
     (refine hK.out _ _ (⟨HT.a.1,HX.1⟩) (fun hHeld=>?_);clear hK K;(try simp only [Act.put,List.setIfInBounds_toArray,List.set]))
     (refine hyes 2 ?_);(refine hyes 3 ?_);(try simp only [Act.put,List.setIfInBounds_toArray,List.set])
     (refine hno 4 ?_);(try simp only [Act.put,List.setIfInBounds_toArray,List.set])
     (refine hno 5 ?_);(try simp only [Act.put,List.setIfInBounds_toArray,List.set])
     (refine hno 6 ?_);(try simp only [Act.put,List.setIfInBounds_toArray,List.set])
     (refine hno 7 ?_);(refine hno 9 ?_);(refine hno 13 ?_);(try simp only [Act.put,List.setIfInBounds_toArray,List.set])
     (refine hno 8 ?_);(refine hno 10 ?_);(try simp only [Act.put,List.setIfInBounds_toArray,List.set])
     (refine hno 11 ?_);(try simp only [Act.put,List.setIfInBounds_toArray,List.set])
     (refine hno 12 ?_);(try simp only [Act.put,List.setIfInBounds_toArray,List.set])
     (refine hno 14 ?_);(try simp only [Act.put,List.setIfInBounds_toArray,List.set])
     (refine hno 15 ?_);(try simp only [Act.put,List.setIfInBounds_toArray,List.set])
     (refine hno 16 ?_);(try simp only [Act.put,List.setIfInBounds_toArray,List.set])
     (refine hyes 17 ?_);(try simp only [Act.put,List.setIfInBounds_toArray,List.set])
     refine wpAnyH_done (by kernel_rfl) ?_ _
     have HTr:=Lib.hid HT
     clear HT HX
     go_wp2_with fail
     go_ret
     exact ⟨R.out,HTr.out.low⟩
    | true =>
     have HS:=Lib.hid (HJS.out HOK.out)
     go_wp2_with fail
     refine wp_region_held_drew (S:=(fun W=>(∀ o,W.cell? ⟨w.heap.size,o,none⟩=(#[.slice (some ⟨b1,o1,none⟩) l.length c0,.slice a1 g.length c1,.slice a2 h.length c2,.slice a3 qs.length c3]:Array Value)[o]?)∧(∀ o,W.cell? ⟨wr.heap.size,o,none⟩=(#[.int .i64 xk,.string x1,.string x2,.string xw,.string x3,.string x4,.string x5,.string x6,.string xv]:Array Value)[o]?))) (by kernel_rfl) ⟨HT1.out.drew.a.1,(HX1.out.below (below_drew (Below.refl _ _))).1⟩ (fun hHeld=>?_)
     have HT:=HT1.out.drew
     have HX:=HX1.out.below (below_drew (Below.refl _ _))
     obtain ⟨wk,hwk⟩:∃ W,W=(wr.alloc (.cells #[.int .i64 xk,.string x1,.string x2,.string xw,.string x3,.string x4,.string x5,.string x6,.string xv] 74)).drew:=⟨_,rfl⟩
     rw [← hwk] at HT HX hHeld ⊢
     clear hwk
     (refine hyes 0 ?_);(try simp only [Act.put,List.setIfInBounds_toArray,List.set])
     (refine held_call 1 rfl (by kernel_rfl) (fun K hK=>?_);go_simp)
     go_at_call 148;refine (RI.out _).mono ?_;rintro e wz1 ⟨rfl,hbq⟩
     have HT:=HT.later hbq
     have HX:=HX.below hbq
     clear hbq
     (refine hK.out _ _ (⟨HT.a.1,HX.1⟩) (fun hHeld=>?_);clear hK K;(try simp only [Act.put,List.setIfInBounds_toArray,List.set]))
     (refine hyes 2 ?_);(refine hyes 3 ?_);(refine hyes 4 ?_);(refine hyes 5 ?_);(refine hyes 6 ?_);(try simp only [Act.put,List.setIfInBounds_toArray,List.set])
     (refine hno 7 ?_);(refine hno 9 ?_);(refine hno 13 ?_);(try simp only [Act.put,List.setIfInBounds_toArray,List.set])
     (refine hno 8 ?_);(refine hno 10 ?_);(try simp only [Act.put,List.setIfInBounds_toArray,List.set])
     (refine hno 11 ?_);(try simp only [Act.put,List.setIfInBounds_toArray,List.set])
     (refine hno 12 ?_);(try simp only [Act.put,List.setIfInBounds_toArray,List.set])
     (refine hno 14 ?_);(try simp only [Act.put,List.setIfInBounds_toArray,List.set])
     (refine hno 15 ?_);(try simp only [Act.put,List.setIfInBounds_toArray,List.set])
     (refine hyes 16 ?_);(refine hyes 17 ?_);(try simp only [Act.put,List.setIfInBounds_toArray,List.set])
     refine wpAnyH_done (by kernel_rfl) ?_ _
     have HTr:=Lib.hid HT
     clear HT HX
     go_wp2_with fail
     exact ⟨⟨k+1,by omega,by go_num,HTr,HS⟩,by simp [intOf];omega⟩
   ·obtain ⟨m,hm⟩:∃ m,k=m+1:=⟨k - 1,by omega⟩
    have dk:decide (0 < k)=true:=by (rw [decide_eq_true_iff];omega)
    have hw1:IntKind.i64.wrap ((k:Int) - 1)=(m:Int):=by rw [show (k:Int) - 1=(m:Int) by omega];exact Go.IntWalk.i64_in _ (by omega)
    have hml:m < l.length:=by omega
    have hmi:(0:Int)≤(m:Int):=by omega
    obtain ⟨q0,q1,q2,q3,q4,q5,q6,q7,q8⟩:=st_cell (w:=w) HXL.out m hml
    rw [decide_eq_false hk0,Bool.false_or,show k - 1=m by omega,getD_in hml] at HOK
    have OR:=Lib.hid (fun W=>syn_OrderB l[m] l[k] W)
    generalize cmpSt l[m] l[k]=cm at *
    clear hk0 hm
    generalize l[k]=x at *
    obtain ⟨xk,⟨x1,x2⟩,xw,⟨x3,x4⟩,⟨x5,x6⟩,xv⟩:=x
    generalize l[m]=y at *
    obtain ⟨yk,⟨y1,y2⟩,yw,⟨y3,y4⟩,⟨y5,y6⟩,yv⟩:=y
    have hba:Below wr.heap.size wr (wr.alloc (.cells #[.int .i64 xk,.string x1,.string x2,.string xw,.string x3,.string x4,.string x5,.string x6,.string xv] 74)):=(Below.refl _ _).alloc (Nat.le_refl _) _
    have HT1:=Lib.hid (HT0.out.later hba)
    have HX1:=Lib.hid (Blk.new wr #[.int .i64 xk,.string x1,.string x2,.string xw,.string x3,.string x4,.string x5,.string x6,.string xv] 74)
    clear hba
    cases ri with
    | false =>
     have R:=Lib.hid (HNO.out (by rw [HOK.out];rfl))
     go_wp2_with fail
     refine wp_region_held_drew (S:=(fun W=>(∀ o,W.cell? ⟨w.heap.size,o,none⟩=(#[.slice (some ⟨b1,o1,none⟩) l.length c0,.slice a1 g.length c1,.slice a2 h.length c2,.slice a3 qs.length c3]:Array Value)[o]?)∧(∀ o,W.cell? ⟨wr.heap.size,o,none⟩=(#[.int .i64 xk,.string x1,.string x2,.string xw,.string x3,.string x4,.string x5,.string x6,.string xv]:Array Value)[o]?))) (by kernel_rfl) ⟨HT1.out.drew.a.1,(HX1.out.below (below_drew (Below.refl _ _))).1⟩ (fun hHeld=>?_)
     have HT:=HT1.out.drew
     have HX:=HX1.out.below (below_drew (Below.refl _ _))
     obtain ⟨wk,hwk⟩:∃ W,W=(wr.alloc (.cells #[.int .i64 xk,.string x1,.string x2,.string xw,.string x3,.string x4,.string x5,.string x6,.string xv] 74)).drew:=⟨_,rfl⟩
     rw [← hwk] at HT HX hHeld ⊢
     clear hwk
     (refine hyes 0 ?_);(try simp only [Act.put,List.setIfInBounds_toArray,List.set])
     (refine held_call 1 rfl (by kernel_rfl) (fun K hK=>?_);go_simp)
     go_at_call 148;refine (RI.out _).mono ?_;rintro e wz1 ⟨rfl,hbq⟩
     have HT:=HT.later hbq
     have HX:=HX.below hbq
     clear hbq
     (refine hK.out _ _ (⟨HT.a.1,HX.1⟩) (fun hHeld=>?_);clear hK K;(try simp only [Act.put,List.setIfInBounds_toArray,List.set]))
     (refine hyes 2 ?_);(refine hyes 3 ?_);(try simp only [Act.put,List.setIfInBounds_toArray,List.set])
     (refine hno 4 ?_);(try simp only [Act.put,List.setIfInBounds_toArray,List.set])
     (refine hno 5 ?_);(try simp only [Act.put,List.setIfInBounds_toArray,List.set])
     (refine hno 6 ?_);(try simp only [Act.put,List.setIfInBounds_toArray,List.set])
     (refine hno 7 ?_);(refine hno 9 ?_);(refine hno 13 ?_);(try simp only [Act.put,List.setIfInBounds_toArray,List.set])
     (refine hno 8 ?_);(refine hno 10 ?_);(try simp only [Act.put,List.setIfInBounds_toArray,List.set])
     (refine hno 11 ?_);(try simp only [Act.put,List.setIfInBounds_toArray,List.set])
     (refine hno 12 ?_);(try simp only [Act.put,List.setIfInBounds_toArray,List.set])
     (refine hno 14 ?_);(try simp only [Act.put,List.setIfInBounds_toArray,List.set])
     (refine hno 15 ?_);(try simp only [Act.put,List.setIfInBounds_toArray,List.set])
     (refine hno 16 ?_);(try simp only [Act.put,List.setIfInBounds_toArray,List.set])
     (refine hyes 17 ?_);(try simp only [Act.put,List.setIfInBounds_toArray,List.set])
     refine wpAnyH_done (by kernel_rfl) ?_ _
     have HTr:=Lib.hid HT
     clear HT HX
     go_wp2_with fail
     go_ret
     exact ⟨R.out,HTr.out.low⟩
    | true =>
     by_cases hcm:cm < 0
     ·have dcm:decide (0≤cm)=false:=decide_eq_false (by omega)
      have HS:=Lib.hid (HJS.out (by rw [HOK.out,decide_eq_true hcm];rfl))
      clear hcm
      go_wp2_with fail
      refine wp_region_held_drew (S:=(fun W=>(∀ o,W.cell? ⟨w.heap.size,o,none⟩=(#[.slice (some ⟨b1,o1,none⟩) l.length c0,.slice a1 g.length c1,.slice a2 h.length c2,.slice a3 qs.length c3]:Array Value)[o]?)∧(∀ o,W.cell? ⟨wr.heap.size,o,none⟩=(#[.int .i64 xk,.string x1,.string x2,.string xw,.string x3,.string x4,.string x5,.string x6,.string xv]:Array Value)[o]?)∧W.cell? ⟨b1,o1+m * 9,none⟩=some (.int .i64 yk)∧W.cell? ⟨b1,o1+m * 9+1,none⟩=some (.string y1)∧W.cell? ⟨b1,o1+m * 9+2,none⟩=some (.string y2)∧W.cell? ⟨b1,o1+m * 9+3,none⟩=some (.string yw)∧W.cell? ⟨b1,o1+m * 9+4,none⟩=some (.string y3)∧W.cell? ⟨b1,o1+m * 9+5,none⟩=some (.string y4)∧W.cell? ⟨b1,o1+m * 9+6,none⟩=some (.string y5)∧W.cell? ⟨b1,o1+m * 9+7,none⟩=some (.string y6)∧W.cell? ⟨b1,o1+m * 9+8,none⟩=some (.string yv))) (by kernel_rfl) ⟨HT1.out.drew.a.1,(HX1.out.below (below_drew (Below.refl _ _))).1,(HT1.out.drew.low.cell (p:=⟨b1,o1+m * 9,none⟩) hb1).trans q0,(HT1.out.drew.low.cell (p:=⟨b1,o1+m * 9+1,none⟩) hb1).trans q1,(HT1.out.drew.low.cell (p:=⟨b1,o1+m * 9+2,none⟩) hb1).trans q2,(HT1.out.drew.low.cell (p:=⟨b1,o1+m * 9+3,none⟩) hb1).trans q3,(HT1.out.drew.low.cell (p:=⟨b1,o1+m * 9+4,none⟩) hb1).trans q4,(HT1.out.drew.low.cell (p:=⟨b1,o1+m * 9+5,none⟩) hb1).trans q5,(HT1.out.drew.low.cell (p:=⟨b1,o1+m * 9+6,none⟩) hb1).trans q6,(HT1.out.drew.low.cell (p:=⟨b1,o1+m * 9+7,none⟩) hb1).trans q7,(HT1.out.drew.low.cell (p:=⟨b1,o1+m * 9+8,none⟩) hb1).trans q8⟩ (fun hHeld=>?_)
      have HT:=HT1.out.drew
      have HX:=HX1.out.below (below_drew (Below.refl _ _))
      obtain ⟨wk,hwk⟩:∃ W,W=(wr.alloc (.cells #[.int .i64 xk,.string x1,.string x2,.string xw,.string x3,.string x4,.string x5,.string x6,.string xv] 74)).drew:=⟨_,rfl⟩
      rw [← hwk] at HT HX hHeld ⊢
      clear hwk
      (refine hyes 0 ?_);(try simp only [Act.put,List.setIfInBounds_toArray,List.set])
      (refine held_call 1 rfl (by kernel_rfl) (fun K hK=>?_);go_simp)
      go_at_call 148;refine (RI.out _).mono ?_;rintro e wz1 ⟨rfl,hbq⟩
      have HT:=HT.later hbq
      have HX:=HX.below hbq
      clear hbq
      (refine hK.out _ _ (⟨HT.a.1,HX.1,(HT.low.cell (p:=⟨b1,o1+m * 9,none⟩) hb1).trans q0,(HT.low.cell (p:=⟨b1,o1+m * 9+1,none⟩) hb1).trans q1,(HT.low.cell (p:=⟨b1,o1+m * 9+2,none⟩) hb1).trans q2,(HT.low.cell (p:=⟨b1,o1+m * 9+3,none⟩) hb1).trans q3,(HT.low.cell (p:=⟨b1,o1+m * 9+4,none⟩) hb1).trans q4,(HT.low.cell (p:=⟨b1,o1+m * 9+5,none⟩) hb1).trans q5,(HT.low.cell (p:=⟨b1,o1+m * 9+6,none⟩) hb1).trans q6,(HT.low.cell (p:=⟨b1,o1+m * 9+7,none⟩) hb1).trans q7,(HT.low.cell (p:=⟨b1,o1+m * 9+8,none⟩) hb1).trans q8⟩) (fun hHeld=>?_);clear hK K;(try simp only [Act.put,List.setIfInBounds_toArray,List.set]))
      (refine hyes 2 ?_);(refine hyes 3 ?_);(refine hyes 4 ?_);(refine hyes 5 ?_);(refine hyes 6 ?_);(refine hyes 7 ?_);(refine hyes 8 ?_);(refine hyes 9 ?_);(refine hyes 10 ?_);(refine hyes 11 ?_);(refine hyes 12 ?_);(refine hyes 13 ?_);(try simp only [Act.put,List.setIfInBounds_toArray,List.set])
      (refine held_call 14 rfl (by kernel_rfl) (fun K hK=>?_);go_simp)
      go_at_call 149;refine (OR.out _).mono ?_;rintro e wz14 ⟨rfl,hbq⟩
      have HT:=HT.later hbq
      have HX:=HX.below hbq
      clear hbq
      (refine hK.out _ _ (⟨HT.a.1,HX.1,(HT.low.cell (p:=⟨b1,o1+m * 9,none⟩) hb1).trans q0,(HT.low.cell (p:=⟨b1,o1+m * 9+1,none⟩) hb1).trans q1,(HT.low.cell (p:=⟨b1,o1+m * 9+2,none⟩) hb1).trans q2,(HT.low.cell (p:=⟨b1,o1+m * 9+3,none⟩) hb1).trans q3,(HT.low.cell (p:=⟨b1,o1+m * 9+4,none⟩) hb1).trans q4,(HT.low.cell (p:=⟨b1,o1+m * 9+5,none⟩) hb1).trans q5,(HT.low.cell (p:=⟨b1,o1+m * 9+6,none⟩) hb1).trans q6,(HT.low.cell (p:=⟨b1,o1+m * 9+7,none⟩) hb1).trans q7,(HT.low.cell (p:=⟨b1,o1+m * 9+8,none⟩) hb1).trans q8⟩) (fun hHeld=>?_);clear hK K;(try simp only [Act.put,List.setIfInBounds_toArray,List.set]))
      (refine hyes 15 ?_);(refine hyes 16 ?_);(refine hyes 17 ?_);(try simp only [Act.put,List.setIfInBounds_toArray,List.set])
      refine wpAnyH_done (by kernel_rfl) ?_ _
      have HTr:=Lib.hid HT
      clear HT HX
      go_wp2_with fail
      exact ⟨⟨k+1,by omega,by go_num,HTr,HS⟩,by simp [intOf];omega⟩
     ·have dcm:decide (0≤cm)=true:=decide_eq_true (by omega)
      have R:=Lib.hid (HNO.out (by rw [HOK.out,decide_eq_false hcm];rfl))
      clear hcm
      go_wp2_with fail
      refine wp_region_held_drew (S:=(fun W=>(∀ o,W.cell? ⟨w.heap.size,o,none⟩=(#[.slice (some ⟨b1,o1,none⟩) l.length c0,.slice a1 g.length c1,.slice a2 h.length c2,.slice a3 qs.length c3]:Array Value)[o]?)∧(∀ o,W.cell? ⟨wr.heap.size,o,none⟩=(#[.int .i64 xk,.string x1,.string x2,.string xw,.string x3,.string x4,.string x5,.string x6,.string xv]:Array Value)[o]?)∧W.cell? ⟨b1,o1+m * 9,none⟩=some (.int .i64 yk)∧W.cell? ⟨b1,o1+m * 9+1,none⟩=some (.string y1)∧W.cell? ⟨b1,o1+m * 9+2,none⟩=some (.string y2)∧W.cell? ⟨b1,o1+m * 9+3,none⟩=some (.string yw)∧W.cell? ⟨b1,o1+m * 9+4,none⟩=some (.string y3)∧W.cell? ⟨b1,o1+m * 9+5,none⟩=some (.string y4)∧W.cell? ⟨b1,o1+m * 9+6,none⟩=some (.string y5)∧W.cell? ⟨b1,o1+m * 9+7,none⟩=some (.string y6)∧W.cell? ⟨b1,o1+m * 9+8,none⟩=some (.string yv))) (by kernel_rfl) ⟨HT1.out.drew.a.1,(HX1.out.below (below_drew (Below.refl _ _))).1,(HT1.out.drew.low.cell (p:=⟨b1,o1+m * 9,none⟩) hb1).trans q0,(HT1.out.drew.low.cell (p:=⟨b1,o1+m * 9+1,none⟩) hb1).trans q1,(HT1.out.drew.low.cell (p:=⟨b1,o1+m * 9+2,none⟩) hb1).trans q2,(HT1.out.drew.low.cell (p:=⟨b1,o1+m * 9+3,none⟩) hb1).trans q3,(HT1.out.drew.low.cell (p:=⟨b1,o1+m * 9+4,none⟩) hb1).trans q4,(HT1.out.drew.low.cell (p:=⟨b1,o1+m * 9+5,none⟩) hb1).trans q5,(HT1.out.drew.low.cell (p:=⟨b1,o1+m * 9+6,none⟩) hb1).trans q6,(HT1.out.drew.low.cell (p:=⟨b1,o1+m * 9+7,none⟩) hb1).trans q7,(HT1.out.drew.low.cell (p:=⟨b1,o1+m * 9+8,none⟩) hb1).trans q8⟩ (fun hHeld=>?_)
      have HT:=HT1.out.drew
      have HX:=HX1.out.below (below_drew (Below.refl _ _))
      obtain ⟨wk,hwk⟩:∃ W,W=(wr.alloc (.cells #[.int .i64 xk,.string x1,.string x2,.string xw,.string x3,.string x4,.string x5,.string x6,.string xv] 74)).drew:=⟨_,rfl⟩
      rw [← hwk] at HT HX hHeld ⊢
      clear hwk
      (refine hyes 0 ?_);(try simp only [Act.put,List.setIfInBounds_toArray,List.set])
      (refine held_call 1 rfl (by kernel_rfl) (fun K hK=>?_);go_simp)
      go_at_call 148;refine (RI.out _).mono ?_;rintro e wz1 ⟨rfl,hbq⟩
      have HT:=HT.later hbq
      have HX:=HX.below hbq
      clear hbq
      (refine hK.out _ _ (⟨HT.a.1,HX.1,(HT.low.cell (p:=⟨b1,o1+m * 9,none⟩) hb1).trans q0,(HT.low.cell (p:=⟨b1,o1+m * 9+1,none⟩) hb1).trans q1,(HT.low.cell (p:=⟨b1,o1+m * 9+2,none⟩) hb1).trans q2,(HT.low.cell (p:=⟨b1,o1+m * 9+3,none⟩) hb1).trans q3,(HT.low.cell (p:=⟨b1,o1+m * 9+4,none⟩) hb1).trans q4,(HT.low.cell (p:=⟨b1,o1+m * 9+5,none⟩) hb1).trans q5,(HT.low.cell (p:=⟨b1,o1+m * 9+6,none⟩) hb1).trans q6,(HT.low.cell (p:=⟨b1,o1+m * 9+7,none⟩) hb1).trans q7,(HT.low.cell (p:=⟨b1,o1+m * 9+8,none⟩) hb1).trans q8⟩) (fun hHeld=>?_);clear hK K;(try simp only [Act.put,List.setIfInBounds_toArray,List.set]))
      (refine hyes 2 ?_);(refine hyes 3 ?_);(refine hyes 4 ?_);(refine hyes 5 ?_);(refine hyes 6 ?_);(refine hyes 7 ?_);(refine hyes 8 ?_);(refine hyes 9 ?_);(refine hyes 10 ?_);(refine hyes 11 ?_);(refine hyes 12 ?_);(refine hyes 13 ?_);(try simp only [Act.put,List.setIfInBounds_toArray,List.set])
      (refine held_call 14 rfl (by kernel_rfl) (fun K hK=>?_);go_simp)
      go_at_call 149;refine (OR.out _).mono ?_;rintro e wz14 ⟨rfl,hbq⟩
      have HT:=HT.later hbq
      have HX:=HX.below hbq
      clear hbq
      (refine hK.out _ _ (⟨HT.a.1,HX.1,(HT.low.cell (p:=⟨b1,o1+m * 9,none⟩) hb1).trans q0,(HT.low.cell (p:=⟨b1,o1+m * 9+1,none⟩) hb1).trans q1,(HT.low.cell (p:=⟨b1,o1+m * 9+2,none⟩) hb1).trans q2,(HT.low.cell (p:=⟨b1,o1+m * 9+3,none⟩) hb1).trans q3,(HT.low.cell (p:=⟨b1,o1+m * 9+4,none⟩) hb1).trans q4,(HT.low.cell (p:=⟨b1,o1+m * 9+5,none⟩) hb1).trans q5,(HT.low.cell (p:=⟨b1,o1+m * 9+6,none⟩) hb1).trans q6,(HT.low.cell (p:=⟨b1,o1+m * 9+7,none⟩) hb1).trans q7,(HT.low.cell (p:=⟨b1,o1+m * 9+8,none⟩) hb1).trans q8⟩) (fun hHeld=>?_);clear hK K;(try simp only [Act.put,List.setIfInBounds_toArray,List.set]))
      (refine hyes 15 ?_);(refine hyes 16 ?_);(refine hyes 17 ?_);(try simp only [Act.put,List.setIfInBounds_toArray,List.set])
      refine wpAnyH_done (by kernel_rfl) ?_ _
      have HTr:=Lib.hid HT
      clear HT HX
      go_wp2_with fail
      go_ret
      exact ⟨R.out,HTr.out.low⟩
  ·have HI:=Lib.hid (show RightP l g h qs F↔s1=true∧s2=true∧s3=false∧s4=true by rw [HI.out,RY.out k hlt HJ.out];simp)
   have NOI:=Lib.hid (show ¬ RightP l g h qs F→RightI l g h qs F (.returned (.bool false)) from rightI_no)
   have HT:=HT0
   obtain ⟨ca,fa,za⟩:=HT.out.a
   go_wp2_with fail
   refine (SG.out _ HT.out.low).mono ?_
   rintro e w1 ⟨rfl,hb1⟩
   have HT:=Lib.hid (HT.out.later hb1)
   clear hb1 ca fa za SG
   cases s1 with
   | false =>
    have R:=Lib.hid (NOI.out (fun hr=>by have:=(HI.out.1 hr).1;cases this))
    go_wp2_with fail
    go_ret
    exact ⟨R.out,HT.out.low⟩
   | true =>
   obtain ⟨ca,fa,za⟩:=HT.out.a
   go_wp2_with fail
   refine (SH.out _ HT.out.low).mono ?_
   rintro e w2 ⟨rfl,hb1⟩
   have HT:=Lib.hid (HT.out.later hb1)
   clear hb1 ca fa za SH
   cases s2 with
   | false =>
    have R:=Lib.hid (NOI.out (fun hr=>by have:=(HI.out.1 hr).2.1;cases this))
    go_wp2_with fail
    go_ret
    exact ⟨R.out,HT.out.low⟩
   | true =>
   obtain ⟨ca,fa,za⟩:=HT.out.a
   go_wp2_with fail
   refine (CF.out _ HT.out.low).mono ?_
   rintro e w3 ⟨rfl,hb1⟩
   have HT:=Lib.hid (HT.out.later hb1)
   clear hb1 ca fa za CF
   cases s3 with
   | true =>
    have R:=Lib.hid (NOI.out (fun hr=>by have:=(HI.out.1 hr).2.2.1;cases this))
    go_wp2_with fail
    go_ret
    exact ⟨R.out,HT.out.low⟩
   | false =>
   obtain ⟨ca,fa,za⟩:=HT.out.a
   go_wp2_with fail
   refine (FI.out _ HT.out.low).mono ?_
   rintro e w4 ⟨rfl,hb1⟩
   have HT:=Lib.hid (HT.out.later hb1)
   have R:=Lib.hid (IFF.out s4 ⟨fun e=>HI.out.2 ⟨by trivial,by trivial,by trivial,e⟩,fun hr=>(HI.out.1 hr).2.2.2⟩)
   clear hb1 ca fa za FI
   go_wp2_with fail
   go_ret
   exact ⟨R.out,HT.out.low⟩
end
section
open Go.RowKit Go.Shelf

end
section
open Go.RowKit Go.Shelf

theorem filter_yesS' {l:List St} {p:St→Bool} {k:Nat} (h:k < l.length) (hp:p l[k]=true):(l.take (k+1)).filter p=(l.take k).filter p++[l[k]]:=by
 rw [List.take_succ_eq_append_getElem h,List.filter_append,List.filter_cons,if_pos hp];rfl
theorem filter_noS' {l:List St} {p:St→Bool} {k:Nat} (h:k < l.length) (hp:p l[k]=false):(l.take (k+1)).filter p=(l.take k).filter p:=by
 rw [List.take_succ_eq_append_getElem h,List.filter_append,List.filter_cons,if_neg (by rw [hp];exact Bool.false_ne_true)];simp
def IdxD (l:List St) (p:St→Bool) (i:Int):Prop :=
 (i = -1∧∀ x∈l,p x=false)∨∃ k:Nat,∃ hk:k < l.length,i=k∧p l[k]=true∧∀ j (hj:j < l.length),j < k→p l[j]=false

set_option maxRecDepth 100000 in
set_option maxHeartbeats 2000000 in
theorem st_IndexD (va:Value) (l:List St) (w:World) (ha:SlA w 9 va l.length (l.flatMap St.cells)) (g:Nat) (cb:Array Value) (p:St→Bool)
  (eg:∀ args w,(callFunc g args).run Tryz.prog w=.ok (.enter g args) w)
  (hp:∀ x W,x∈l→Below w.heap.size w W→Calls Tryz.prog g (#[sv x]++cb) W fun e w'=>e=.returned (.bool (p x))∧Below W.heap.size W w') :
  Calls Tryz.prog 247 #[va,.func (.func g) #[] cb] w fun e w'=>(∃ i:Int,e=.returned (.int .i64 i)∧IdxD l p i)∧Below w.heap.size w w':=by
 have HP:=Lib.hid hp
 have HA:=Lib.hid ha
 have hmax:=ha.max
 obtain ⟨ao,cap,hva⟩:=ha.form
 subst hva
 clear ha hp
 go_enter Tryz.func247,Tryz.ntmps247
 go_wp2
 go_loopw [8] (fun i wr => ∃ k:Nat,k≤l.length∧i=.int .i64 k∧Hid (Below w.heap.size w wr)∧Hid (∀ j (hj:j < l.length),j < k→p l[j]=false)) (fun i _=>l.length - (intOf i).toNat)
 case atStart=>exact ⟨0,by omega,rfl,Lib.hid (Below.refl _ _),Lib.hid (fun _ _ h=>absurd h (by omega))⟩
 case round =>
  obtain ⟨k,hk,rfl,HB,HJ⟩:=hrel
  by_cases hlt:k < l.length
  ·obtain ⟨b1,o1,c1,he1,hc1,hm1,hb1,hx1⟩:=HA.out.pos (by omega)
   simp only [Value.slice.injEq,true_and] at he1
   obtain ⟨rfl,rfl⟩:=he1
   obtain ⟨p0,p1,p2,p3,p4,p5,p6,p7,p8⟩:=st_cell (w:=wr) (fun j u hu=>(HB.out.cell (p:=⟨b1,o1+j,none⟩) hb1).trans (hx1 j u hu)) k hlt
   have hbr:b1 < wr.heap.size:=Nat.lt_of_lt_of_le hb1 HB.out.size
   have PC:=Lib.hid (fun W h=>HP.out l[k] W (List.getElem_mem hlt) h)
   have YES:Hid (p l[k]=true→IdxD l p k):=Lib.hid (fun h=>.inr ⟨k,hlt,rfl,h,HJ.out⟩)
   have HJ2:Hid (p l[k]=false→∀ j (hj:j < l.length),j < k+1→p l[j]=false):=Lib.hid (fun hpk j hj hjk=>by
    by_cases h:j < k
    ·exact HJ.out j hj h
    ·obtain rfl:j=k:=by omega
     exact hpk)
   clear hx1
   generalize p l[k]=px at PC YES HJ2
   generalize l[k]=x at *
   obtain ⟨xk,⟨x1,x2⟩,xw,⟨x3,x4⟩,⟨x5,x6⟩,xv⟩:=x
   go_wp2_with fail
   refine (PC.out _ HB.out).mono ?_
   rintro e w2 ⟨rfl,hb2⟩
   have HB2:=Lib.hid (HB.out.trans (hb2.mono HB.out.size))
   clear hb2
   cases px with
   | true =>
    have R:=Lib.hid (YES.out rfl)
    go_wp2
    go_ret
    exact ⟨⟨(k:Int),rfl,R.out⟩,HB2.out⟩
   | false =>
    have HJ3:=Lib.hid (HJ2.out rfl)
    go_wp2
    exact ⟨⟨k+1,by omega,by go_num,HB2,HJ3⟩,by simp [intOf];omega⟩
  ·have R:Hid (IdxD l p (-1)):=Lib.hid (.inl ⟨rfl,fun x hx=>by
    obtain ⟨j,hj,rfl⟩:=List.getElem_of_mem hx
    exact HJ.out j hj (by omega)⟩)
   go_wp2
   go_ret
   exact ⟨⟨-1,rfl,R.out⟩,HB.out⟩

structure HalfD (w:World) (b o:Nat) (l:List St) (np:St→Bool) (j i:Nat):Prop where
 len:((l.take j).filter np).length=i
 low:∀ k (hk:k < ((l.take j).filter np).length),Nine w b (o+k * 9) ((l.take j).filter np)[k]
 high:∀ k (hk:k < l.length),j≤k→Nine w b (o+k * 9) l[k]
 all:∀ k,k < l.length→∃ s0,Nine w b (o+k * 9) s0
theorem HalfD.move {w w':World} {b o j i:Nat} {l:List St} {np:St→Bool} (h:HalfD w b o l np j i) (hw:∀ i,w'.cell? ⟨b,i,none⟩=w.cell? ⟨b,i,none⟩):HalfD w' b o l np j i :=
 ⟨h.len,fun k hk=>(h.low k hk).drop1 (fun _ _ _=>hw _),fun k hk hj=>(h.high k hk hj).drop1 (fun _ _ _=>hw _),fun k hk=>(h.all k hk).elim fun s0 h0=>⟨s0,h0.drop1 (fun _ _ _=>hw _)⟩⟩
theorem HalfD.skip {w:World} {b o j i:Nat} {l:List St} {np:St→Bool} (h:HalfD w b o l np j i) (hj:j < l.length) (e:np l[j]=false):HalfD w b o l np (j+1) i:=by
 have hd:=filter_noS' hj e
 exact ⟨by rw [hd];exact h.len,fun k hk=>by simp only [hd];exact h.low k (by rw [← hd];exact hk),fun k hk hjk=>h.high k hk (by omega),h.all⟩
theorem HalfD.put {w:World} {b o j i:Nat} {l:List St} {np:St→Bool} (h:HalfD w b o l np j i) (hj:j < l.length) (hij:i≤j) (e:np l[j]=true):HalfD (W9 w b (o+i * 9) l[j]) b o l np (j+1) (i+1):=by
 have hd:=filter_yesS' hj e
 refine ⟨by rw [hd,List.length_append,h.len];rfl,fun k hk=>?_,fun k hk hjk=>?_,fun k hk=>?_⟩
 ·rw [hd,List.length_append,h.len] at hk
  simp only [List.length_cons,List.length_nil] at hk
  by_cases hik:k < i
  ·have e1:((l.take (j+1)).filter np)[k]'(by rw [hd,List.length_append,h.len];simp;omega)=((l.take j).filter np)[k]'(by rw [h.len];exact hik):=by
    simp only [hd];rw [List.getElem_append_left]
   rw [e1]
   exact (h.low k (by rw [h.len];exact hik)).drop1 (fun _ _ _=>w9_far _ _ _ _ _ (by omega))
  ·obtain rfl:k=i:=by omega
   have e1:((l.take (j+1)).filter np)[k]'(by rw [hd,List.length_append,h.len];simp)=l[j]:=by
    simp only [hd];rw [List.getElem_append_right (by rw [h.len];exact Nat.le_refl _)];simp [h.len]
   rw [e1]
   obtain ⟨s0,h0⟩:=h.all k (by omega)
   exact w9_new _ _ h0
 ·exact (h.high k hk (by omega)).drop1 (fun _ _ _=>w9_far _ _ _ _ _ (by omega))
 ·obtain ⟨s0,h0⟩:=h.all k hk
  by_cases hik:k=i
  ·subst hik;exact ⟨_,w9_new _ _ h0⟩
  ·exact ⟨s0,h0.drop1 (fun _ _ _=>w9_far _ _ _ _ _ (by omega))⟩
theorem HalfD.start {w:World} {b o k:Nat} {l:List St} {np:St→Bool} (hx:∀ j u,(l.flatMap St.cells)[j]? = some u→w.cell? ⟨b,o+j,none⟩=some u) (hk:k < l.length) (h0:np l[k]=false) (h1:∀ j (hj:j < l.length),j < k→np l[j]=true):HalfD w b o l np (k+1) k:=by
 have hd:(l.take (k+1)).filter np=l.take k:=by
  rw [filter_noS' hk h0,List.filter_eq_self]
  intro x hx
  obtain ⟨j,hj,rfl⟩:=List.getElem_of_mem hx
  rw [List.getElem_take]
  rw [List.length_take] at hj
  exact h1 j (by omega) (by omega)
 refine ⟨by rw [hd,List.length_take];omega,fun i hi=>?_,fun i hi _=>st_cell (w:=w) hx i hi,fun i hi=>⟨_,st_cell (w:=w) hx i hi⟩⟩
 have hi':i < l.length:=by rw [hd,List.length_take] at hi;omega
 have e:((l.take (k+1)).filter np)[i]=l[i]:=by simp only [hd,List.getElem_take]
 rw [e]
 exact st_cell (w:=w) hx i hi'
theorem HalfD.done {w:World} {b o j i:Nat} {l:List St} {np:St→Bool} (h:HalfD w b o l np j i) (hj:j=l.length):(l.filter np).length=i∧∀ k (hk:k < (l.filter np).length),Nine w b (o+k * 9) (l.filter np)[k]:=by
 subst hj
 obtain ⟨h1,h2,_,_⟩:=h
 simp only [List.take_of_length_le (Nat.le_refl _)] at h1 h2
 exact ⟨h1,h2⟩
theorem HalfD.some {w:World} {b o j i:Nat} {l:List St} {np:St→Bool} (h:HalfD w b o l np j i) (hi:i≤l.length):∀ k,k < (l.length - i) * 9→(w.cell? ⟨b,o+i * 9+k,none⟩).isSome=true:=by
 intro k hk
 obtain ⟨s0,h0⟩:=h.all (i+k / 9) (by omega)
 have:=nine_some h0 (k % 9) (Nat.mod_lt _ (by decide))
 rwa [show o+(i+k / 9) * 9+k % 9=o+i * 9+k by omega] at this
set_option maxRecDepth 100000 in
set_option maxHeartbeats 8000000 in
theorem st_DeleteFunc (b o cap:Nat) (l:List St) (w:World) (_:l.length≤1000) (hc:l.length≤cap) (hcm:cap≤9223372036854775807) (hb:b < w.heap.size)
  (hx:∀ j u,(l.flatMap St.cells)[j]? = some u→w.cell? ⟨b,o+j,none⟩=some u) (hf:∀ i,w.frozen? ⟨b,i,none⟩=false)
  (g:Nat) (cb:Array Value) (p:St→Bool) (eg:∀ args w,(callFunc g args).run Tryz.prog w=.ok (.enter g args) w)
  (hp:∀ x W,w.grownBy W (some b)→Calls Tryz.prog g (#[sv x]++cb) W fun e w'=>e=.returned (.bool (p x))∧Below W.heap.size W w') :
  Calls Tryz.prog 179 #[.slice (some ⟨b,o,none⟩) l.length cap,.func (.func g) #[] cb] w fun e w' =>
   e=.returned (.slice (some ⟨b,o,none⟩) (l.filter fun x => !p x).length cap)∧(∀ j u,((l.filter fun x => !p x).flatMap St.cells)[j]? = some u→w'.cell? ⟨b,o+j,none⟩=some u)∧w.grownBy w' (some b):=by
 have hmax:maxLen=9223372036854775807:=by decide
 have HX:=Lib.hid hx
 have HP:=Lib.hid hp
 have HF:=Lib.hid hf
 have IDX:=Lib.hid (st_IndexD (.slice (some ⟨b,o,none⟩) l.length cap) l w (Sl.a ⟨flat_len _ _ St.cells_len _,by omega,.inr ⟨b,o,cap,rfl,hc,by omega,hb,hx⟩⟩) g cb p eg (fun x W _ hW=>hp x W (grown_of_below hW _)))
 clear hx hp hf
 go_enter Tryz.func179,Tryz.ntmps179
 go_wp2_with fail
 refine IDX.out.mono ?_
 rintro e w1 ⟨⟨i,rfl,hidx⟩,hb1⟩
 have HB1:=Lib.hid hb1
 rcases hidx with ⟨rfl,hno⟩ | ⟨k,hk,rfl,hyes,hbef⟩
 ·have R:=Lib.hid (show (l.filter fun x => !p x)=l by rw [List.filter_eq_self];intro x hx;rw [hno x hx];rfl)
  clear hno hb1
  go_wp2
  go_ret
  exact ⟨by rw [R.out];rfl,by rw [R.out];exact fun j u hu=>(HB1.out.cell (p:=⟨b,o+j,none⟩) hb).trans (HX.out j u hu),grown_of_below HB1.out _⟩
 ·have d1:((k:Int) == -1)=false:=by rw [beq_eq_false_iff_ne];omega
  have H0:=Lib.hid (HalfD.start (np:=fun x => !p x) (w:=w1) (b:=b) (o:=o) (fun j u hu=>(HB1.out.cell (p:=⟨b,o+j,none⟩) hb).trans (HX.out j u hu)) hk (by rw [hyes];rfl) (fun j hj hjk=>by rw [hbef j hj hjk];rfl))
  have F0:=Lib.hid (fun i=>(HB1.out.frozen (p:=⟨b,i,none⟩) hb).trans (HF.out i))
  have hb1s:b < w1.heap.size:=Nat.lt_of_lt_of_le hb HB1.out.size
  clear hyes hbef hb1
  go_wp2_with fail
  go_loopw [5,6] (fun iv jv wr => ∃ i j:Nat,i < j∧j≤l.length∧iv=.int .i64 i∧jv=.int .i64 j∧Hid (HalfD wr b o l (fun x => !p x) j i)∧Hid (w.grownBy wr (some b))∧Hid (∀ i,wr.frozen? ⟨b,i,none⟩=false)∧b < wr.heap.size) (fun _ jv _=>l.length - (intOf jv).toNat)
  case atStart=>exact ⟨k,k+1,by omega,by omega,rfl,by go_num,H0,Lib.hid (grown_of_below HB1.out _),F0,hb1s⟩
  case round =>
   obtain ⟨i,j,hij,hj,rfl,rfl,HH,HG,HFR,hbr⟩:=hrel
   by_cases hlt:j < l.length
   ·obtain ⟨p0,p1,p2,p3,p4,p5,p6,p7,p8⟩:=HH.out.high j hlt (Nat.le_refl _)
    have hil:i < l.length:=by omega
    obtain ⟨s0,q0,q1,q2,q3,q4,q5,q6,q7,q8⟩:=HH.out.all i hil
    have PC:=Lib.hid (fun W h=>HP.out l[j] W h)
    have YES:Hid (∀ W,HalfD W b o l (fun x => !p x) j i→p l[j]=false→HalfD (W9 W b (o+i * 9) l[j]) b o l (fun x => !p x) (j+1) (i+1)):=Lib.hid (fun W h e=>h.put hlt (by omega) (by rw [e];rfl))
    have NO:Hid (∀ W,HalfD W b o l (fun x => !p x) j i→p l[j]=true→HalfD W b o l (fun x => !p x) (j+1) i):=Lib.hid (fun W h e=>h.skip hlt (by rw [e];rfl))
    generalize p l[j]=px at PC YES NO
    generalize l[j]=x at *
    obtain ⟨xk,⟨x1,x2⟩,xw,⟨x3,x4⟩,⟨x5,x6⟩,xv⟩:=x
    have HGA:=Lib.hid (gb_alloc HG.out (.cells #[.int .i64 xk,.string x1,.string x2,.string xw,.string x3,.string x4,.string x5,.string x6,.string xv] 74))
    go_wp2_with fail
    refine (PC.out _ HGA.out).mono ?_
    rintro e w2 ⟨rfl,hb2a⟩
    have HBK:=Lib.hid (keep1 hb2a)
    have hb2:Below wr.heap.size wr w2:=((Below.refl _ _).alloc (Nat.le_refl _) _).trans (hb2a.mono (by simp))
    have HB2:=Lib.hid hb2
    obtain ⟨cx,fx,zx⟩:=HBK.out
    have hc2:=Lib.hid (fun i=>hb2.cell (p:=⟨b,i,none⟩) hbr)
    have f2:∀ i,w2.frozen? ⟨b,i,none⟩=false:=fun i=>(hb2.frozen (p:=⟨b,i,none⟩) hbr).trans (HFR.out i)
    have p0':=(hc2.out _).trans p0
    have p1':=(hc2.out _).trans p1
    have p2':=(hc2.out _).trans p2
    have p3':=(hc2.out _).trans p3
    have p4':=(hc2.out _).trans p4
    have p5':=(hc2.out _).trans p5
    have p6':=(hc2.out _).trans p6
    have p7':=(hc2.out _).trans p7
    have p8':=(hc2.out _).trans p8
    have q0':=(hc2.out _).trans q0
    have q1':=(hc2.out _).trans q1
    have q2':=(hc2.out _).trans q2
    have q3':=(hc2.out _).trans q3
    have q4':=(hc2.out _).trans q4
    have q5':=(hc2.out _).trans q5
    have q6':=(hc2.out _).trans q6
    have q7':=(hc2.out _).trans q7
    have q8':=(hc2.out _).trans q8
    have hbr2:b < w2.heap.size:=Nat.lt_of_lt_of_le hbr hb2.size
    have HG2:=Lib.hid (gb_trans HG.out (gb_of_below (r:=some b) hb2))
    have HM:=Lib.hid (HH.out.move hc2.out)
    clear hb2 hb2a p0 p1 p2 p3 p4 p5 p6 p7 p8 q0 q1 q2 q3 q4 q5 q6 q7 q8
    cases px with
    | true =>
     have R:=Lib.hid (NO.out _ HM.out rfl)
     go_wp2
     exact ⟨⟨i,j+1,by omega,by omega,rfl,by go_num,R,HG2,Lib.hid f2,hbr2⟩,by simp [intOf];omega⟩
    | false =>
     have R:=Lib.hid (YES.out _ HM.out rfl)
     go_wp2
     refine ⟨⟨i+1,j+1,by omega,by omega,by go_num,by go_num,Lib.hid ?_,Lib.hid ?_,Lib.hid ?_,?_⟩,by simp [intOf];omega⟩
     ·have h:=R.out
      unfold W9 at h
      with_reducible exact h
     ·have h:=grown_w9 (b:=b) (a:=o+i * 9) (s:=⟨xk,⟨x1,x2⟩,xw,⟨x3,x4⟩,⟨x5,x6⟩,xv⟩) HG2.out
      unfold W9 at h
      with_reducible exact h
     ·intro i
      simpa using f2 i
     ·simpa using hbr2
   ·obtain ⟨hlen,hlow⟩:=HH.out.done (by omega)
    have HLEN:=Lib.hid hlen
    have HLOW:=Lib.hid hlow
    have hil:i < l.length:=by omega
    have hic:i < cap:=by omega
    obtain ⟨W',hW,hclr⟩:∃ W',W'=wr.setCells b (o+i * 9) (Builtin.zeroCells zeroSt.cells (l.length - i)).toList∧∀ ty,Sem.run Tryz.prog (Builtin.clear_ #[22] ty #[.slice (some ⟨b,o+i * 9,none⟩) (l.length - i) (cap - i)]) wr=.ok (.tuple #[]) W' :=
     ⟨_,rfl,fun ty=>run_clear9 wr _ 74 ty zeroSt Tryz.underlying22 st_zero b (o+i * 9) (l.length - i) (cap - i) (by omega) rfl (HH.out.some (by omega)) (fun j=>HFR.out _) (zero_one _)⟩
    have HOUT:Hid (∀ k,k < o+i * 9→W'.cell? ⟨b,k,none⟩=wr.cell? ⟨b,k,none⟩):=Lib.hid (fun k hk=>by rw [hW];exact World.cell?_setCells_out b _ _ _ _ (fun _ _=>.inl hk))
    have HGW:Hid (w.grownBy W' (some b)):=Lib.hid (by rw [hW];exact grown_sets _ _ _ HG.out)
    clear hlen hlow hW
    go_wp2_with fail
    go_ret
    refine ⟨by rw [HLEN.out];rfl,?_,HGW.out⟩
    refine nine_cells (fun k hk=>(HLOW.out k hk).drop1 (fun j h1 h2=>HOUT.out j ?_))
    have:=HLEN.out
    omega
set_option maxHeartbeats 1000000 in
theorem st_DeleteNil (w:World) (g:Nat) (cb:Array Value) (eg:∀ args w,(callFunc g args).run Tryz.prog w=.ok (.enter g args) w) :
  Calls Tryz.prog 179 #[.slice none 0 0,.func (.func g) #[] cb] w fun e w'=>e=.returned (.slice none 0 0)∧Below w.heap.size w w':=by
 have IDX:=Lib.hid (st_IndexD (.slice none 0 0) [] w (Sl.nil _ _).a g cb (fun _=>false) eg (fun x W hx _=>by cases hx))
 go_enter Tryz.func179,Tryz.ntmps179
 go_wp2_with fail
 refine IDX.out.mono ?_
 rintro e w1 ⟨⟨i,rfl,hidx⟩,hb1⟩
 have HB1:=Lib.hid hb1
 rcases hidx with ⟨rfl,_⟩ | ⟨k,hk,_⟩
 ·clear hb1
  go_wp2
  go_ret
  exact ⟨rfl,HB1.out⟩
 ·exact absurd hk (by simp)
end
section
open Go.RowKit Go.Shelf

def minS (l:List St) (h:List Rl):List St:=l.filter (fun s=>hasR h s.h)
theorem minS_len (l:List St) (h:List Rl):(minS l h).length≤l.length:=List.length_filter_le _ _
set_option maxHeartbeats 1000000 in
theorem low_Minimal1 (c:Nat) (v0 v1 vg v3:Value) (g:List Rl) (x:St) (w:World) (hc:∀ o,w.cell? ⟨c,o,none⟩=(#[v0,v1,vg,v3]:Array Value)[o]?) (hg:SlA w 2 vg g.length (g.flatMap Rl.cells)) (h0:v0.oneCell'=true) (h1:v1.oneCell'=true) (h3:v3.oneCell'=true) :
  Calls Tryz.prog 181 #[sv x,.pointer (some ⟨c,0,none⟩)] w fun e w'=>e=.returned (.bool (!hasR g x.h))∧Below w.heap.size w w':=by
 have H:=Lib.hid (fun W h=>state_MayGo v0 v1 vg v3 g x W h h0 h1 h3)
 have HB:=Lib.hid hg
 have hlt:c < w.heap.size:=World.block_lt_of_cell? w (u:=v0) _ (hc 0)
 generalize hasR g x.h=r at H ⊢
 obtain ⟨bo,bc,hvb⟩:=hg.form
 subst hvb
 obtain ⟨xk,⟨x1,x2⟩,xw,⟨x3,x4⟩,⟨x5,x6⟩,xv⟩:=x
 clear hg
 go_enter Tryz.func181,Tryz.ntmps181
 go_wp2_with fail
 refine (H.out _ (HB.out.below ((Below.refl _ _).alloc (Nat.le_refl _) _))).mono ?_
 rintro e w1 ⟨rfl,hb1⟩
 have HB1:=Lib.hid (((Below.refl _ w).alloc (Nat.le_refl _) _).trans (hb1.mono (by simp)):Below w.heap.size w w1)
 clear hb1
 go_wp2
 go_ret
 exact ⟨rfl,HB1.out⟩
theorem below_of_grownS {w a b:World} {g:Nat} (h:Below w.heap.size w a) (hg:w.heap.size≤g) (hr:a.grownBy b (some g)):Below w.heap.size w b :=
 h.grown hr h.size (by rintro k ⟨⟩;exact hg)
set_option maxHeartbeats 2000000 in
theorem low_Minimal (v0 v1 v2 v3:Value) (l:List St) (g h:List Rl) (qs:List Qv) (w:World) (hp:PolAt w v0 v1 v2 v3 l g h qs) (hl:l.length≤1000) :
  Calls Tryz.prog 106 #[pv v0 v1 v2 v3] w fun e w' => ∃ v,e=.returned v∧Sl w' 9 v (minS l h).length ((minS l h).flatMap St.cells)∧Below w.heap.size w w':=by
 have hmax:maxLen=9223372036854775807:=by decide
 have eg:∀ args w,(callFunc 181 args).run Tryz.prog w=.ok (.enter 181 args) w:=enters_of Tryz.func181 (by kernel_rfl) rfl
 have HW:=Lib.hid (show Below w.heap.size w (w.alloc (.cells #[v0,v1,v2,v3] 26)) from (Below.refl _ _).alloc (Nat.le_refl _) _)
 have BK:=Lib.hid (Blk.new w #[v0,v1,v2,v3] 26)
 have CL:=Lib.hid (st_Clone v0 l (w.alloc (.cells #[v0,v1,v2,v3] 26)) (hp.rs.below HW.out) (by omega))
 have o0:v0.oneCell'=true:=by obtain ⟨a,c,rfl⟩:=hp.rs.form;rfl
 have o1:v1.oneCell'=true:=by obtain ⟨a,c,rfl⟩:=hp.rg.form;rfl
 have o3:v3.oneCell'=true:=by obtain ⟨a,c,rfl⟩:=hp.rq.form;rfl
 have HH:=Lib.hid (hp.rh.below HW.out)
 have DF:=Lib.hid (fun W b cap (hlow:Below (w.alloc (.cells #[v0,v1,v2,v3] 26)).heap.size (w.alloc (.cells #[v0,v1,v2,v3] 26)) W) (hne:(w.alloc (.cells #[v0,v1,v2,v3] 26)).heap.size≤b) (hc:l.length≤cap) (hcm:cap≤9223372036854775807) (hbs:b < W.heap.size) hx hf =>
  st_DeleteFunc b 0 cap l W hl hc hcm hbs hx hf 181 #[.pointer (some ⟨w.heap.size,0,none⟩)] (fun s => !hasR h s.h) eg (fun x V hV=>by
   have hlo:Below (w.alloc (.cells #[v0,v1,v2,v3] 26)).heap.size (w.alloc (.cells #[v0,v1,v2,v3] 26)) V:=hlow.grown hV hlow.size (by rintro k ⟨⟩;exact hne)
   exact low_Minimal1 w.heap.size v0 v1 v2 v3 h x V ((BK.out.below hlo).1) (HH.out.below hlo) o0 o1 o3))
 have DN:=Lib.hid (fun W=>st_DeleteNil W 181 #[.pointer (some ⟨w.heap.size,0,none⟩)] eg)
 have FL:=Lib.hid (show (l.filter fun x => !(!hasR h x.h))=minS l h by unfold minS;simp)
 have FN:=Lib.hid (fun (h0:l=[])=>show minS l h=[] by rw [h0];rfl)
 have LX:=Lib.hid (minS_len l h)
 obtain ⟨a0,c0,rfl⟩:=hp.rs.form
 obtain ⟨a1,c1,rfl⟩:=hp.rg.form
 obtain ⟨a2,c2,rfl⟩:=hp.rh.form
 obtain ⟨a3,c3,rfl⟩:=hp.rq.form
 generalize minS l h=ms at *
 clear hp eg o0 o1 o3
 go_enter Tryz.func106,Tryz.ntmps106
 go_wp2_with fail
 refine CL.out.mono ?_
 rintro e w1 ⟨hb1,ho⟩
 have HB1:=Lib.hid hb1
 have HW1:=Lib.hid (HW.out.trans (hb1.mono HW.out.size))
 have hz1:w.heap.size < w1.heap.size:=Nat.lt_of_lt_of_le (by simp) hb1.size
 rcases ho with ⟨rfl,h0⟩ | ⟨g,cap,rfl,h1,h2,h3,h4,h5,h6⟩
 ·have F:=Lib.hid (FN.out h0)
  clear hb1 h0 DF CL FN FL
  go_wp2_with fail
  refine (DN.out _).mono ?_
  rintro e w2 ⟨rfl,hb2⟩
  have HB2:=Lib.hid (HW1.out.trans (hb2.mono HW1.out.size))
  clear hb2
  go_wp2
  go_ret
  exact ⟨_,rfl,by rw [F.out];exact Sl.nil _ _,HB2.out⟩
 ·have D:=Lib.hid (DF.out w1 g cap HB1.out h1 h3 h4 h2 h5 h6)
  have hwg:w.heap.size≤g:=Nat.le_trans (by simp) h1
  rw [FL.out] at D
  have hmc:ms.length≤cap:=Nat.le_trans LX.out h3
  clear hb1 DN DF CL FN FL h5 h6
  go_wp2_with fail
  refine D.out.mono ?_
  rintro e w2 ⟨rfl,hx,hg2⟩
  have HX:=Lib.hid hx
  have HG:=Lib.hid hg2
  clear hx hg2
  go_wp2
  go_ret
  exact ⟨_,rfl,⟨flat_len _ _ St.cells_len _,by omega,.inr ⟨g,0,cap,rfl,hmc,by omega,Nat.lt_of_lt_of_le h2 HG.out.size,HX.out⟩⟩,below_of_grownS HW1.out hwg HG.out⟩
theorem minS_snoc {l:List St} {h:List Rl} {k:Nat} (hk:k < l.length):minS (l.take (k+1)) h=minS (l.take k) h++(if hasR h l[k].h=true then [l[k]] else []):=by
 unfold minS
 rw [List.take_succ_eq_append_getElem hk,List.filter_append,List.filter_cons,List.filter_nil]
theorem st1s (k:Int) (a b c d e f g h:ByteArray):∀ u∈[Value.int .i64 k,.string a,.string b,.string c,.string d,.string e,.string f,.string g,.string h],u.oneCell'=true:=by
 intro u hu;simp at hu;rcases hu with rfl | rfl | rfl | rfl | rfl | rfl | rfl | rfl | rfl <;> rfl
theorem push_at {α:Type} {e:TypeId} {size:Nat} (enc:α→List Value) {w wr w3:World} {A:Array Value} {vo:Value} {rs:List α} {x:α} {o:Obj} {a':Option Addr} {cap':Nat} (ht:OneAt w A wr) (hown:wr.ownsRow (w.heap.size+1) e size vo rs.length (rs.flatMap enc))
  (h:w3.ownsRow (w.heap.size+1) e size (.slice a' (rs.length+1) cap') (rs.length+1) (rs.flatMap enc++enc x)) (hg:(wr.alloc o).grownBy w3 vo.ownBlock) :
  w3.ownsRow (w.heap.size+1) e size (.slice a' (rs.length+1) cap') (rs++[x]).length ((rs++[x]).flatMap enc)∧OneAt w A w3:=by
 refine ⟨by rw [List.length_append,List.flatMap_append];simpa using h,(ht.a.alloc o).grown hg (own_gt_ne hown (Nat.lt_succ_self _)),?_⟩
 exact below_own (ht.low.alloc ht.low.size o) (hown.alloc _) hg (by have:=ht.low.size;simp;omega) (Nat.le_succ _)
set_option maxRecDepth 100000 in
set_option maxHeartbeats 4000000 in
theorem ref11_Minimal (v0 v1 v2 v3:Value) (l:List St) (g h:List Rl) (qs:List Qv) (w:World) (hp:PolAt w v0 v1 v2 v3 l g h qs) (hl:l.length≤1000) :
  Calls Tryz.prog 82 #[pv v0 v1 v2 v3] w fun e w' => ∃ v,e=.returned v∧SlA w' 9 v (minS l h).length ((minS l h).flatMap St.cells)∧Below w.heap.size w w':=by
 have HRS:=Lib.hid hp.rs
 have RH:=Lib.hid (fun s W (hb:Below w.heap.size w W)=>ref5_Has v2 h s W (hp.rh.below hb))
 obtain ⟨a0,c0,rfl⟩:=hp.rs.form
 obtain ⟨a1,c1,rfl⟩:=hp.rg.form
 obtain ⟨a2,c2,rfl⟩:=hp.rh.form
 obtain ⟨a3,c3,rfl⟩:=hp.rq.form
 clear hp
 have HT0:=Lib.hid (show OneAt w #[.slice a0 l.length c0,.slice a1 g.length c1,.slice a2 h.length c2,.slice a3 qs.length c3] (w.alloc (.cells #[.slice a0 l.length c0,.slice a1 g.length c1,.slice a2 h.length c2,.slice a3 qs.length c3] 26)) from ⟨Blk.new w _ _,(Below.refl _ _).alloc (Nat.le_refl _) _⟩)
 go_enter Tryz.func82,Tryz.ntmps82
 go_wp2_with fail
 go_loopw [3,9] (fun vo i wr => ∃ (k:Nat) (ms:List St),k≤l.length∧i=.int .i64 k∧Hid (ms=minS (l.take k) h)∧Hid (OneAt w #[.slice a0 l.length c0,.slice a1 g.length c1,.slice a2 h.length c2,.slice a3 qs.length c3] wr)∧Hid (wr.ownsRow (w.heap.size+1) 74 9 vo ms.length (ms.flatMap St.cells))) (fun _ i _=>l.length - (intOf i).toNat)
 case atStart=>exact ⟨0,[],by omega,rfl,Lib.hid rfl,HT0,Lib.hid (World.ownsRow_nil _ _ _ _)⟩
 case round =>
  clear HT0
  obtain ⟨k,ms,hk,rfl,HE,HT,HO⟩:=hrel
  obtain ⟨oo,oc,rfl⟩:=own_form HO.out
  obtain ⟨cs,fs,zs⟩:=HT.out.a
  have hml:ms.length≤1000:=by have h3:=minS_len (l.take k) h;rw [← HE.out] at h3;have:=List.length_take_le k l;omega
  by_cases hlt:k < l.length
  ·obtain ⟨b1,o1,e1,he1,hc1,hm1',hb1,hx1⟩:=HRS.out.pos (by omega)
   simp only [Value.slice.injEq,true_and] at he1
   obtain ⟨rfl,rfl⟩:=he1
   obtain ⟨p0,p1,p2,p3,p4,p5,p6,p7,p8⟩:=st_cell (w:=wr) (fun j u hu=>(HT.out.low.cell (p:=⟨b1,o1+j,none⟩) hb1).trans (hx1 j u hu)) k hlt
   have hbr:b1 < wr.heap.size:=Nat.lt_of_lt_of_le hb1 HT.out.low.size
   have HF:=Lib.hid (minS_snoc (h:=h) hlt)
   clear hx1
   generalize l[k]=x at *
   have RHx:=Lib.hid (RH.out x.h)
   generalize hasR h x.h=t at *
   obtain ⟨xk,⟨x1,x2⟩,xw,⟨x3,x4⟩,⟨x5,x6⟩,xv⟩:=x
   have HT1:=Lib.hid (HT.out.alloc (.cells #[.int .i64 xk,.string x1,.string x2,.string xw,.string x3,.string x4,.string x5,.string x6,.string xv] 74))
   have HO1:=Lib.hid (HO.out.alloc (.cells #[.int .i64 xk,.string x1,.string x2,.string xw,.string x3,.string x4,.string x5,.string x6,.string xv] 74))
   have HX1:=Lib.hid (Blk.new wr #[.int .i64 xk,.string x1,.string x2,.string xw,.string x3,.string x4,.string x5,.string x6,.string xv] 74)
   go_wp2_with fail
   refine (RHx.out _ HT1.out.low).mono ?_
   rintro e w2 ⟨rfl,hb⟩
   have HT2:=Lib.hid (HT1.out.later hb)
   have HO2:=Lib.hid (own_below HO1.out hb)
   have HX2:=Lib.hid (HX1.out.below hb)
   have hz2:wr.heap.size < w2.heap.size:=Nat.lt_of_lt_of_le (by simp) hb.size
   clear hb HO1 HT1 HT HO HX1 cs fs zs
   obtain ⟨cs,fs,zs⟩:=HT2.out.a
   obtain ⟨cx,fx,zx⟩:=HX2.out
   cases t with
   | true =>
    go_wp2_with (at_builtin;refine halt_ ?_)
    unfold Halt_
    refine app_own Tryz.underlying22 st_info rfl (by decide) (by decide) rfl _ _ rfl (w.heap.size+1) rfl (HO2.out.alloc _) [.int .i64 xk,.string x1,.string x2,.string xw,.string x3,.string x4,.string x5,.string x6,.string xv] rfl (heap_new1 _ _) rfl (st1s _ _ _ _ _ _ _ _ _) ?_ ?_ ?_
    ·omega
    ·simp;omega
    intro a' cap' w3 hown' hgrow
    obtain ⟨q1,q2⟩:=push_at St.cells (x:=⟨xk,⟨x1,x2⟩,xw,⟨x3,x4⟩,⟨x5,x6⟩,xv⟩) HT2.out HO2.out hown' hgrow
    have HO3:=Lib.hid q1
    have HT3:=Lib.hid q2
    clear hown' hgrow q1 q2 cs fs zs cx fx zx
    go_wp2_with fail
    exact ⟨⟨k+1,ms++[⟨xk,⟨x1,x2⟩,xw,⟨x3,x4⟩,⟨x5,x6⟩,xv⟩],by omega,by go_num,Lib.hid (by rw [HF.out,← HE.out];simp),HT3,HO3⟩,by simp [intOf];omega⟩
   | false =>
    go_wp2_with fail
    exact ⟨⟨k+1,ms,by omega,by go_num,Lib.hid (by rw [HF.out,← HE.out];simp),HT2,HO2⟩,by simp [intOf];omega⟩
  ·have HRS:=Lib.hid (show ms=minS l h by rw [HE.out,List.take_of_length_le (show l.length≤k by omega)])
   go_wp2
   go_ret
   exact ⟨_,rfl,by rw [← HRS.out];exact (Sl.of_own HO.out).a,HT.out.low⟩
end
end Go.Proofs.YtilgbodgmkmjjaaGreatDoor
