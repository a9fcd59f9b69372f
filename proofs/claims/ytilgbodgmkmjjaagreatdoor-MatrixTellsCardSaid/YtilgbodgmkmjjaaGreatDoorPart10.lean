/- Parts: QRight RlConcO PolRoles -/
import Derived.Test.YtilgbodgmkmjjaaGreatDoorPart9
import Derived.Test.YtilgbodgmkmjjaaGreatDoorPart6
import Derived.Test.YtilgbodgmkmjjaaGreatDoorPart5
import Derived.Test.YtilgbodgmkmjjaaGreatDoorShelfP
import Derived.Test.YtilgbodgmkmjjaaGreatDoorPart8
import Derived.Test.YtilgbodgmkmjjaaGreatDoorPart3
namespace Go.Proofs.YtilgbodgmkmjjaaGreatDoor
section
open Go.RowKit Go.Shelf

def secB (k:Int):Bool:=decide (k=5) || decide (k=6)
def leastI (k:Int):Int:=if k=1∨k=2 then 1 else if k=3 then 0 else -1
theorem query_secondB (k:Int) (w:World):Calls Tryz.prog 225 #[.int .i64 k] w fun e w'=>e=.returned (.bool (secB k))∧w'=w:=by
 have R:=Lib.hid (show secB k=(decide (k=5) || decide (k=6)) from rfl)
 generalize secB k=r at *
 go_enter Tryz.func225,Tryz.ntmps225
 by_cases h5:k=5
 ·have d5:(k == 5)=true:=by simp [h5]
  have R2:=Lib.hid (show r=true by rw [R.out,decide_eq_true h5];rfl)
  clear h5
  go_wp2
  go_ret
  exact ⟨ret_b R2.out.symm,rfl⟩
 ·have d5:(k == 5)=false:=by simp [h5]
  by_cases h6:k=6
  ·have d6:(k == 6)=true:=by simp [h6]
   have R2:=Lib.hid (show r=true by rw [R.out,decide_eq_true h6,Bool.or_true])
   clear h5 h6
   go_wp2
   go_ret
   exact ⟨ret_b R2.out.symm,rfl⟩
  ·have d6:(k == 6)=false:=by simp [h6]
   have R2:=Lib.hid (show r=false by rw [R.out,decide_eq_false h5,decide_eq_false h6];rfl)
   clear h5 h6
   go_wp2
   go_ret
   exact ⟨ret_b R2.out.symm,rfl⟩
theorem query_least (k:Int) (w:World):Calls Tryz.prog 226 #[.int .i64 k] w fun e w'=>e=.returned (.int .i64 (leastI k))∧w'=w:=by
 have R:=Lib.hid (show leastI k=if k=1∨k=2 then 1 else if k=3 then 0 else -1 from rfl)
 generalize leastI k=r at *
 go_enter Tryz.func226,Tryz.ntmps226
 by_cases h1:k=1
 ·have d1:(k == 1)=true:=by simp [h1]
  have R2:=Lib.hid (show r=1 by rw [R.out,if_pos (.inl h1)])
  clear h1
  go_wp2
  go_ret
  exact ⟨ret_int R2.out.symm,rfl⟩
 have d1:(k == 1)=false:=by simp [h1]
 by_cases h2:k=2
 ·have d2:(k == 2)=true:=by simp [h2]
  have R2:=Lib.hid (show r=1 by rw [R.out,if_pos (.inr h2)])
  clear h1 h2
  go_wp2
  go_ret
  exact ⟨ret_int R2.out.symm,rfl⟩
 have d2:(k == 2)=false:=by simp [h2]
 by_cases h3:k=3
 ·have d3:(k == 3)=true:=by simp [h3]
  have R2:=Lib.hid (show r=0 by rw [R.out,if_neg (by omega),if_pos h3])
  clear h1 h2 h3
  go_wp2
  go_ret
  exact ⟨ret_int R2.out.symm,rfl⟩
 ·have d3:(k == 3)=false:=by simp [h3]
  have R2:=Lib.hid (show r = -1 by rw [R.out,if_neg (by omega),if_neg h3])
  clear h1 h2 h3
  go_wp2
  go_ret
  exact ⟨ret_int R2.out.symm,rfl⟩
theorem less_rev {a b:ByteArray} (h:Op.bytesLess a.toList b.toList=true):Op.bytesLess b.toList a.toList=false∧(b.toList == a.toList)=false:=by
 rw [← str_less,decide_eq_true_iff] at h
 have h2:=cmpS_neg a b
 refine ⟨by rw [← str_less,decide_eq_false_iff_not];omega,?_⟩
 rw [beq_str,decide_eq_false_iff_not]
 intro e
 have:=(cmpS_zero b a).2 e
 omega
theorem less_not {a b:ByteArray} (h:Op.bytesLess a.toList b.toList=false):Op.bytesLess b.toList a.toList=true∨(b.toList == a.toList)=true:=by
 rw [← str_less,decide_eq_false_iff_not] at h
 have h2:=cmpS_neg a b
 by_cases e:b=a
 ·exact .inr (by rw [beq_str,e];exact decide_eq_true rfl)
 ·have:¬ cmpS b a=0:=fun h'=>e ((cmpS_zero b a).1 h')
  exact .inl (by rw [← str_less,decide_eq_true_iff];omega)
set_option maxRecDepth 100000 in
set_option maxHeartbeats 2000000 in
theorem query_rising (v:Value) (us:List ByteArray) (w:World) (hu:SlA w 1 v us.length (strs us)) (hz:∀ s∈us,s.size≤9223372036854775807):Calls Tryz.prog 224 #[v] w fun e w'=>e=.returned (.bool (rises us))∧Below w.heap.size w w':=by
 have HU:=Lib.hid hu
 have HUZ:=Lib.hid hz
 have hmax:=hu.max
 obtain ⟨wo,wc,rfl⟩:=hu.form
 clear hu hz
 have RY:=Lib.hid (fun k (hk:¬ k < us.length) h=>rises_yes (us:=us) (k:=k) hk h)
 have RN:=Lib.hid (fun k (hk:k < us.length) h=>rises_no (us:=us) (k:=k) hk h)
 generalize rises us=res at RY RN ⊢
 go_enter Tryz.func224,Tryz.ntmps224
 go_wp2_with fail
 go_loopw [7] (fun i wr => ∃ k:Nat,k≤us.length∧i=.int .i64 k∧Hid (Below w.heap.size w wr)∧Hid (∀ j,j < k→risesAt us j=true)) (fun i _=>us.length - (intOf i).toNat)
 case atStart=>exact ⟨0,by omega,rfl,Lib.hid (Below.refl _ _),Lib.hid (fun j h=>absurd h (by omega))⟩
 case round =>
  obtain ⟨k,hk,rfl,HB,HJ⟩:=hrel
  by_cases hlt:k < us.length
  ·obtain ⟨b1,o1,c1,he1,hc1,hm1,hb1,hx1⟩:=HU.out.pos (by omega)
   simp only [Value.slice.injEq,true_and] at he1
   obtain ⟨rfl,rfl⟩:=he1
   have p0:=(HB.out.cell (p:=⟨b1,o1+k,none⟩) hb1).trans (hx1 k _ (strs_get hlt))
   have hbr:b1 < wr.heap.size:=Nat.lt_of_lt_of_le hb1 HB.out.size
   have IP:=Lib.hid (fun W=>names_IsPrin us[k] W (HUZ.out _ (List.getElem_mem hlt)))
   have HRA:=Lib.hid (show risesAt us k=(isP 65 90 (bl us[k]) && (decide (k=0) || Op.bytesLess (us.getD (k - 1) emp).toList us[k].toList)) by unfold risesAt;rw [getD_at hlt])
   have HJS:Hid (risesAt us k=true→∀ j,j < k+1→risesAt us j=true):=Lib.hid (fun h j hj=>by
    by_cases e:j=k
    ·rw [e];exact h
    ·exact HJ.out j (by omega))
   have HNO:=Lib.hid (fun (h:risesAt us k=false)=>RN.out k hlt h)
   generalize isP 65 90 (bl us[k])=rp at IP HRA
   cases rp with
   | false =>
    clear hx1
    go_wp2_with fail
    refine (IP.out _).mono ?_
    rintro e w2 ⟨rfl,rfl⟩
    go_wp2
    go_ret
    exact ⟨ret_b (HNO.out (by rw [HRA.out];rfl)).symm,HB.out⟩
   | true =>
    by_cases hk0:k=0
    ·have dk:decide (0 < k)=false:=by (rw [decide_eq_false_iff_not];omega)
     have HS:=Lib.hid (HJS.out (by rw [HRA.out,decide_eq_true hk0];rfl))
     clear hx1 hk0
     go_wp2_with fail
     refine (IP.out _).mono ?_
     rintro e w2 ⟨rfl,rfl⟩
     go_wp2
     exact ⟨⟨k+1,by omega,by go_num,HB,HS⟩,by simp [intOf];omega⟩
    ·obtain ⟨m,hm⟩:∃ m,k=m+1:=⟨k - 1,by omega⟩
     have dk:decide (0 < k)=true:=by (rw [decide_eq_true_iff];omega)
     have hw1:IntKind.i64.wrap ((k:Int) - 1)=(m:Int):=by rw [show (k:Int) - 1=(m:Int) by omega];exact Go.IntWalk.i64_in _ (by omega)
     have hml:m < us.length:=by omega
     have hmi:(0:Int)≤(m:Int):=by omega
     have q0:=(HB.out.cell (p:=⟨b1,o1+m,none⟩) hb1).trans (hx1 m _ (strs_get hml))
     rw [decide_eq_false hk0,Bool.false_or,show k - 1=m by omega,getD_at hml,Bool.true_and] at HRA
     clear hx1 hk0 hm
     go_wp2_with fail
     refine (IP.out _).mono ?_
     rintro e w2 ⟨rfl,rfl⟩
     generalize us[k]=sk at *
     generalize us[m]=sm at *
     cases hbl:Op.bytesLess sm.toList sk.toList with
     | false =>
      have HBL:=Lib.hid hbl
      rcases less_not hbl with hl | hl <;> clear hbl
      all_goals
       go_wp2
       go_ret
       exact ⟨ret_b (HNO.out (by rw [HRA.out];exact HBL.out)).symm,HB.out⟩
     | true =>
      obtain ⟨hl1,hl2⟩:=less_rev hbl
      have HS:=Lib.hid (HJS.out (by rw [HRA.out];exact hbl))
      go_wp2
      exact ⟨⟨k+1,by omega,by go_num,HB,HS⟩,by simp [intOf];omega⟩
  ·have R:=Lib.hid (RY.out k hlt HJ.out)
   go_wp2
   go_ret
   exact ⟨ret_b R.out.symm,HB.out⟩
theorem noR_role:isRole noR=false:=by kernel_rfl
set_option maxRecDepth 100000 in
set_option maxHeartbeats 16000000 in
theorem query_RightL (q:Qv) (us:List ByteArray) (w:World) (hla:q.a.le 4294967) (hlb:q.b.le 4294967) (hu1:SlA w 1 q.w us.length (strs us)) (hu3:∀ s∈us,s.size≤9223372036854775807):Calls Tryz.prog 151 #[qv q] w fun e w'=>e=.returned (.bool (rightQ q us))∧Below w.heap.size w w':=by
 have RES:=Lib.hid (show rightQ q us=(decide (1≤q.k) && (decide (q.k≤6) && (isRole q.a && (rises us && (if 5≤q.k then isRole q.b && decide (us.length=0) else eqRl q.b noR && (decide (us.length≤12) && (if q.k=4 then decide (us.length=0) else decide (q.k=3) || decide (0 < us.length)))))))) from rfl)
 generalize rightQ q us=res at RES ⊢
 obtain ⟨xk,⟨x1,x2⟩,⟨x3,x4⟩,wv⟩:=q
 have hmax:=hu1.max
 dsimp only at RES hu1 hla hlb
 have IA:=Lib.hid (fun W=>syn_IsRole ⟨x1,x2⟩ W hla)
 have IB:=Lib.hid (fun W=>syn_IsRole ⟨x3,x4⟩ W hlb)
 have RI:=Lib.hid (fun W (hb:Below w.heap.size w W)=>query_rising wv us W (hu1.below hb) hu3)
 generalize isRole ⟨x1,x2⟩=ra at IA RES
 generalize rises us=ri at RI RES
 obtain ⟨wo,wc,rfl⟩:=hu1.form
 have HT:=Lib.hid (show OneAt w #[.int .i64 xk,.string x1,.string x2,.string x3,.string x4,.slice wo us.length wc] (w.alloc (.cells #[.int .i64 xk,.string x1,.string x2,.string x3,.string x4,.slice wo us.length wc] 50)) from ⟨Blk.new w _ _,(Below.refl _ _).alloc (Nat.le_refl _) _⟩)
 clear hla hlb hu1 hu3
 go_enter Tryz.func151,Tryz.ntmps151
 by_cases k1:xk < 1
 ·have d1:decide (xk < 1)=true:=decide_eq_true k1
  have R:=Lib.hid (show res=false by rw [RES.out,decide_eq_false (show ¬ 1≤xk by omega)];rfl)
  clear k1
  go_wp2
  go_ret
  exact ⟨ret_b R.out.symm,HT.out.low⟩
 have d1:decide (xk < 1)=false:=decide_eq_false k1
 by_cases k6:6 < xk
 ·have d6:decide (6 < xk)=true:=decide_eq_true k6
  have R:=Lib.hid (show res=false by rw [RES.out,decide_eq_true (show 1≤xk by omega),decide_eq_false (show ¬ xk≤6 by omega)];rfl)
  clear k1 k6
  go_wp2
  go_ret
  exact ⟨ret_b R.out.symm,HT.out.low⟩
 have d6:decide (6 < xk)=false:=decide_eq_false k6
 rw [decide_eq_true (show 1≤xk by omega),decide_eq_true (show xk≤6 by omega),Bool.true_and,Bool.true_and] at RES
 have HK:=Lib.hid (And.intro k1 k6)
 clear k1 k6
 go_wp2_with fail
 refine (IA.out _).mono ?_
 rintro e w1 ⟨rfl,hb1⟩
 have HT:=Lib.hid (HT.out.later hb1)
 clear hb1
 cases ra with
 | false =>
  go_wp2
  go_ret
  exact ⟨ret_b (by rw [RES.out];rfl),HT.out.low⟩
 | true =>
 rw [Bool.true_and] at RES
 obtain ⟨ca,fa,za⟩:=HT.out.a
 go_wp2_with fail
 refine (RI.out _ HT.out.low).mono ?_
 rintro e wr ⟨rfl,hb1⟩
 have HT:=Lib.hid (HT.out.later hb1)
 clear hb1 ca fa za RI
 cases ri with
 | false =>
  go_wp2
  go_ret
  exact ⟨ret_b (by rw [RES.out];rfl),HT.out.low⟩
 | true =>
 rw [Bool.true_and] at RES
 have hk:xk=1∨xk=2∨xk=3∨xk=4∨xk=5∨xk=6:=by have:=HK.out.1;have:=HK.out.2;omega
 clear HK d1 d6
 obtain ⟨eb,heb⟩:∃ e,eqRl ⟨x3,x4⟩ ⟨emp,emp⟩=e:=⟨_,rfl⟩
 have HEB:=Lib.hid heb
 have RBN:=Lib.hid (fun (h:eb=true)=>show isRole ⟨x3,x4⟩=false by rw [show (⟨x3,x4⟩:Rl)=noR from of_decide_eq_true (heb.trans h)];exact noR_role)
 clear heb
 rcases hk with rfl | rfl | rfl | rfl | rfl | rfl
 ·have RS:Hid (res=(eqRl ⟨x3,x4⟩ noR && (decide (us.length≤12) && decide (0 < us.length)))):=Lib.hid (RES.out.trans (by rfl))
  clear RES
  rw [show eqRl ⟨x3,x4⟩ noR=eb from HEB.out] at RS
  have SE:=Lib.hid (fun W=>query_secondB 1 W)
  have SB:=Lib.hid (show secB 1=false from rfl)
  rw [SB.out] at SE
  have LE:=Lib.hid (fun W=>query_least 1 W)
  rw [show leastI 1=1 from rfl] at LE
  have HNe:=fun W=>role_neq x3 x4 emp emp W
  rw [show eqRl ⟨x3,x4⟩ ⟨emp,emp⟩=eb from HEB.out] at HNe
  cases eb with
  | false =>
   simp only [Bool.not_false] at HNe
   go_wp2_with fail
   refine wp_region_held_drew (S:=(fun W => ∀ o,W.cell? ⟨w.heap.size,o,none⟩=(#[.int .i64 1,.string x1,.string x2,.string x3,.string x4,.slice wo us.length wc]:Array Value)[o]?)) (by kernel_rfl) HT.out.drew.a.1 (fun hHeld=>?_)
   have HT:=HT.out.drew
   obtain ⟨wk,hwk⟩:∃ W,W=wr.drew:=⟨_,rfl⟩
   rw [← hwk] at HT hHeld ⊢
   clear hwk
   (refine hyes 0 ?_);(refine hyes 1 ?_);(refine hyes 3 ?_);(refine hyes 4 ?_);(refine hyes 5 ?_);(refine hyes 6 ?_);(try simp only [Act.put,List.setIfInBounds_toArray,List.set])
   (refine held_call 2 rfl (by kernel_rfl) (fun K hK=>?_);go_simp)
   go_at_call 225;refine (SE.out _).mono ?_;rintro e wz2 ⟨rfl,rfl⟩
   (refine hK.out _ _ ((HT.a.1)) (fun hHeld=>?_);clear hK K;(try simp only [Act.put,List.setIfInBounds_toArray,List.set]))
   (refine hyes 7 ?_);(refine hyes 8 ?_);(try simp only [Act.put,List.setIfInBounds_toArray,List.set])
   (refine hno 9 ?_);(try simp only [Act.put,List.setIfInBounds_toArray,List.set])
   (refine hno 10 ?_);(try simp only [Act.put,List.setIfInBounds_toArray,List.set])
   (refine hno 11 ?_);(try simp only [Act.put,List.setIfInBounds_toArray,List.set])
   (refine hno 12 ?_);(try simp only [Act.put,List.setIfInBounds_toArray,List.set])
   (refine hno 13 ?_);(try simp only [Act.put,List.setIfInBounds_toArray,List.set])
   (refine hno 14 ?_);(try simp only [Act.put,List.setIfInBounds_toArray,List.set])
   (refine hno 15 ?_);(try simp only [Act.put,List.setIfInBounds_toArray,List.set])
   (refine hno 16 ?_);(try simp only [Act.put,List.setIfInBounds_toArray,List.set])
   (refine hno 17 ?_);(try simp only [Act.put,List.setIfInBounds_toArray,List.set])
   (refine hyes 18 ?_);(try simp only [Act.put,List.setIfInBounds_toArray,List.set])
   refine wpAnyH_done (by kernel_rfl) ?_ _
   have HTr:=Lib.hid HT
   clear HT
   go_wp2_with fail
   go_ret
   exact ⟨ret_b (by rw [RS.out];first | rfl | (simp [noR_role]) | (cases rb <;> simp_all)),HTr.out.low⟩
  | true =>
   simp only [Bool.not_true] at HNe
   go_wp2_with fail
   refine wp_region_held_drew (S:=(fun W => ∀ o,W.cell? ⟨w.heap.size,o,none⟩=(#[.int .i64 1,.string x1,.string x2,.string x3,.string x4,.slice wo us.length wc]:Array Value)[o]?)) (by kernel_rfl) HT.out.drew.a.1 (fun hHeld=>?_)
   have HT:=HT.out.drew
   obtain ⟨wk,hwk⟩:∃ W,W=wr.drew:=⟨_,rfl⟩
   rw [← hwk] at HT hHeld ⊢
   clear hwk
   (refine hyes 0 ?_);(refine hyes 1 ?_);(refine hyes 3 ?_);(refine hyes 4 ?_);(refine hyes 5 ?_);(refine hyes 6 ?_);(try simp only [Act.put,List.setIfInBounds_toArray,List.set])
   (refine held_call 2 rfl (by kernel_rfl) (fun K hK=>?_);go_simp)
   go_at_call 225;refine (SE.out _).mono ?_;rintro e wz2 ⟨rfl,rfl⟩
   (refine hK.out _ _ ((HT.a.1)) (fun hHeld=>?_);clear hK K;(try simp only [Act.put,List.setIfInBounds_toArray,List.set]))
   (refine hyes 7 ?_);(refine hyes 8 ?_);(refine hyes 9 ?_);(refine hyes 10 ?_);(try simp only [Act.put,List.setIfInBounds_toArray,List.set])
   (refine held_call 11 rfl (by kernel_rfl) (fun K hK=>?_);go_simp)
   go_at_call 225;refine (SE.out _).mono ?_;rintro e wz11 ⟨rfl,rfl⟩
   (refine hK.out _ _ ((HT.a.1)) (fun hHeld=>?_);clear hK K;(try simp only [Act.put,List.setIfInBounds_toArray,List.set]))
   (refine hyes 12 ?_);(try simp only [Act.put,List.setIfInBounds_toArray,List.set])
   (refine hno 13 ?_);(try simp only [Act.put,List.setIfInBounds_toArray,List.set])
   (refine hno 14 ?_);(try simp only [Act.put,List.setIfInBounds_toArray,List.set])
   (refine hno 15 ?_);(try simp only [Act.put,List.setIfInBounds_toArray,List.set])
   (refine hno 16 ?_);(try simp only [Act.put,List.setIfInBounds_toArray,List.set])
   (refine hyes 17 ?_);(refine hyes 18 ?_);(try simp only [Act.put,List.setIfInBounds_toArray,List.set])
   refine wpAnyH_done (by kernel_rfl) ?_ _
   have HTr:=Lib.hid HT
   clear HT
   obtain ⟨ca,fa,za⟩:=HTr.out.a
   go_wp2_with fail
   refine (LE.out _).mono ?_
   rintro e wl ⟨rfl,rfl⟩
   by_cases h0:us.length=0
   ·have e0:((us.length:Int) == 0)=true:=by rw [beq_iff_eq];omega
    have e3:decide ((us.length:Int)≤12)=true:=decide_eq_true (by omega)
    have e4:decide ((1:Int)≤(us.length:Int))=false:=decide_eq_false (by omega)
    have e5:decide ((0:Int)≤(us.length:Int))=true:=decide_eq_true (by omega)
    rw [h0] at RS
    go_wp2_with fail
    go_ret
    exact ⟨ret_b (by rw [RS.out];rfl),HTr.out.low⟩
   ·by_cases h12:us.length≤12
    ·have e0:((us.length:Int) == 0)=false:=by rw [beq_eq_false_iff_ne];omega
     have e3:decide ((us.length:Int)≤12)=true:=decide_eq_true (by omega)
     have e4:decide ((1:Int)≤(us.length:Int))=true:=decide_eq_true (by omega)
     have e5:decide ((0:Int)≤(us.length:Int))=true:=decide_eq_true (by omega)
     (try rw [decide_eq_false h0] at RS);(try rw [decide_eq_true h12] at RS);(try rw [decide_eq_true (show 0 < us.length by omega)] at RS)
     go_wp2_with fail
     go_ret
     exact ⟨ret_b (by rw [RS.out];rfl),HTr.out.low⟩
    ·have e0:((us.length:Int) == 0)=false:=by rw [beq_eq_false_iff_ne];omega
     have e3:decide ((us.length:Int)≤12)=false:=decide_eq_false (by omega)
     have e4:decide ((1:Int)≤(us.length:Int))=true:=decide_eq_true (by omega)
     have e5:decide ((0:Int)≤(us.length:Int))=true:=decide_eq_true (by omega)
     (try rw [decide_eq_false h0] at RS);(try rw [decide_eq_false h12] at RS);(try rw [decide_eq_true (show 0 < us.length by omega)] at RS)
     go_wp2_with fail
     go_ret
     exact ⟨ret_b (by rw [RS.out];rfl),HTr.out.low⟩
 ·have RS:Hid (res=(eqRl ⟨x3,x4⟩ noR && (decide (us.length≤12) && decide (0 < us.length)))):=Lib.hid (RES.out.trans (by rfl))
  clear RES
  rw [show eqRl ⟨x3,x4⟩ noR=eb from HEB.out] at RS
  have SE:=Lib.hid (fun W=>query_secondB 2 W)
  have SB:=Lib.hid (show secB 2=false from rfl)
  rw [SB.out] at SE
  have LE:=Lib.hid (fun W=>query_least 2 W)
  rw [show leastI 2=1 from rfl] at LE
  have HNe:=fun W=>role_neq x3 x4 emp emp W
  rw [show eqRl ⟨x3,x4⟩ ⟨emp,emp⟩=eb from HEB.out] at HNe
  cases eb with
  | false =>
   simp only [Bool.not_false] at HNe
   go_wp2_with fail
   refine wp_region_held_drew (S:=(fun W => ∀ o,W.cell? ⟨w.heap.size,o,none⟩=(#[.int .i64 2,.string x1,.string x2,.string x3,.string x4,.slice wo us.length wc]:Array Value)[o]?)) (by kernel_rfl) HT.out.drew.a.1 (fun hHeld=>?_)
   have HT:=HT.out.drew
   obtain ⟨wk,hwk⟩:∃ W,W=wr.drew:=⟨_,rfl⟩
   rw [← hwk] at HT hHeld ⊢
   clear hwk
   (refine hyes 0 ?_);(refine hyes 1 ?_);(refine hyes 3 ?_);(refine hyes 4 ?_);(refine hyes 5 ?_);(refine hyes 6 ?_);(try simp only [Act.put,List.setIfInBounds_toArray,List.set])
   (refine held_call 2 rfl (by kernel_rfl) (fun K hK=>?_);go_simp)
   go_at_call 225;refine (SE.out _).mono ?_;rintro e wz2 ⟨rfl,rfl⟩
   (refine hK.out _ _ ((HT.a.1)) (fun hHeld=>?_);clear hK K;(try simp only [Act.put,List.setIfInBounds_toArray,List.set]))
   (refine hyes 7 ?_);(refine hyes 8 ?_);(try simp only [Act.put,List.setIfInBounds_toArray,List.set])
   (refine hno 9 ?_);(try simp only [Act.put,List.setIfInBounds_toArray,List.set])
   (refine hno 10 ?_);(try simp only [Act.put,List.setIfInBounds_toArray,List.set])
   (refine hno 11 ?_);(try simp only [Act.put,List.setIfInBounds_toArray,List.set])
   (refine hno 12 ?_);(try simp only [Act.put,List.setIfInBounds_toArray,List.set])
   (refine hno 13 ?_);(try simp only [Act.put,List.setIfInBounds_toArray,List.set])
   (refine hno 14 ?_);(try simp only [Act.put,List.setIfInBounds_toArray,List.set])
   (refine hno 15 ?_);(try simp only [Act.put,List.setIfInBounds_toArray,List.set])
   (refine hno 16 ?_);(try simp only [Act.put,List.setIfInBounds_toArray,List.set])
   (refine hno 17 ?_);(try simp only [Act.put,List.setIfInBounds_toArray,List.set])
   (refine hyes 18 ?_);(try simp only [Act.put,List.setIfInBounds_toArray,List.set])
   refine wpAnyH_done (by kernel_rfl) ?_ _
   have HTr:=Lib.hid HT
   clear HT
   go_wp2_with fail
   go_ret
   exact ⟨ret_b (by rw [RS.out];first | rfl | (simp [noR_role]) | (cases rb <;> simp_all)),HTr.out.low⟩
  | true =>
   simp only [Bool.not_true] at HNe
   go_wp2_with fail
   refine wp_region_held_drew (S:=(fun W => ∀ o,W.cell? ⟨w.heap.size,o,none⟩=(#[.int .i64 2,.string x1,.string x2,.string x3,.string x4,.slice wo us.length wc]:Array Value)[o]?)) (by kernel_rfl) HT.out.drew.a.1 (fun hHeld=>?_)
   have HT:=HT.out.drew
   obtain ⟨wk,hwk⟩:∃ W,W=wr.drew:=⟨_,rfl⟩
   rw [← hwk] at HT hHeld ⊢
   clear hwk
   (refine hyes 0 ?_);(refine hyes 1 ?_);(refine hyes 3 ?_);(refine hyes 4 ?_);(refine hyes 5 ?_);(refine hyes 6 ?_);(try simp only [Act.put,List.setIfInBounds_toArray,List.set])
   (refine held_call 2 rfl (by kernel_rfl) (fun K hK=>?_);go_simp)
   go_at_call 225;refine (SE.out _).mono ?_;rintro e wz2 ⟨rfl,rfl⟩
   (refine hK.out _ _ ((HT.a.1)) (fun hHeld=>?_);clear hK K;(try simp only [Act.put,List.setIfInBounds_toArray,List.set]))
   (refine hyes 7 ?_);(refine hyes 8 ?_);(refine hyes 9 ?_);(refine hyes 10 ?_);(try simp only [Act.put,List.setIfInBounds_toArray,List.set])
   (refine held_call 11 rfl (by kernel_rfl) (fun K hK=>?_);go_simp)
   go_at_call 225;refine (SE.out _).mono ?_;rintro e wz11 ⟨rfl,rfl⟩
   (refine hK.out _ _ ((HT.a.1)) (fun hHeld=>?_);clear hK K;(try simp only [Act.put,List.setIfInBounds_toArray,List.set]))
   (refine hyes 12 ?_);(try simp only [Act.put,List.setIfInBounds_toArray,List.set])
   (refine hno 13 ?_);(try simp only [Act.put,List.setIfInBounds_toArray,List.set])
   (refine hno 14 ?_);(try simp only [Act.put,List.setIfInBounds_toArray,List.set])
   (refine hno 15 ?_);(try simp only [Act.put,List.setIfInBounds_toArray,List.set])
   (refine hno 16 ?_);(try simp only [Act.put,List.setIfInBounds_toArray,List.set])
   (refine hyes 17 ?_);(refine hyes 18 ?_);(try simp only [Act.put,List.setIfInBounds_toArray,List.set])
   refine wpAnyH_done (by kernel_rfl) ?_ _
   have HTr:=Lib.hid HT
   clear HT
   obtain ⟨ca,fa,za⟩:=HTr.out.a
   go_wp2_with fail
   refine (LE.out _).mono ?_
   rintro e wl ⟨rfl,rfl⟩
   by_cases h0:us.length=0
   ·have e0:((us.length:Int) == 0)=true:=by rw [beq_iff_eq];omega
    have e3:decide ((us.length:Int)≤12)=true:=decide_eq_true (by omega)
    have e4:decide ((1:Int)≤(us.length:Int))=false:=decide_eq_false (by omega)
    have e5:decide ((0:Int)≤(us.length:Int))=true:=decide_eq_true (by omega)
    rw [h0] at RS
    go_wp2_with fail
    go_ret
    exact ⟨ret_b (by rw [RS.out];rfl),HTr.out.low⟩
   ·by_cases h12:us.length≤12
    ·have e0:((us.length:Int) == 0)=false:=by rw [beq_eq_false_iff_ne];omega
     have e3:decide ((us.length:Int)≤12)=true:=decide_eq_true (by omega)
     have e4:decide ((1:Int)≤(us.length:Int))=true:=decide_eq_true (by omega)
     have e5:decide ((0:Int)≤(us.length:Int))=true:=decide_eq_true (by omega)
     (try rw [decide_eq_false h0] at RS);(try rw [decide_eq_true h12] at RS);(try rw [decide_eq_true (show 0 < us.length by omega)] at RS)
     go_wp2_with fail
     go_ret
     exact ⟨ret_b (by rw [RS.out];rfl),HTr.out.low⟩
    ·have e0:((us.length:Int) == 0)=false:=by rw [beq_eq_false_iff_ne];omega
     have e3:decide ((us.length:Int)≤12)=false:=decide_eq_false (by omega)
     have e4:decide ((1:Int)≤(us.length:Int))=true:=decide_eq_true (by omega)
     have e5:decide ((0:Int)≤(us.length:Int))=true:=decide_eq_true (by omega)
     (try rw [decide_eq_false h0] at RS);(try rw [decide_eq_false h12] at RS);(try rw [decide_eq_true (show 0 < us.length by omega)] at RS)
     go_wp2_with fail
     go_ret
     exact ⟨ret_b (by rw [RS.out];rfl),HTr.out.low⟩
 ·have RS:Hid (res=(eqRl ⟨x3,x4⟩ noR && (decide (us.length≤12) && true))):=Lib.hid (RES.out.trans (by rfl))
  clear RES
  rw [show eqRl ⟨x3,x4⟩ noR=eb from HEB.out] at RS
  have SE:=Lib.hid (fun W=>query_secondB 3 W)
  have SB:=Lib.hid (show secB 3=false from rfl)
  rw [SB.out] at SE
  have LE:=Lib.hid (fun W=>query_least 3 W)
  rw [show leastI 3=0 from rfl] at LE
  have HNe:=fun W=>role_neq x3 x4 emp emp W
  rw [show eqRl ⟨x3,x4⟩ ⟨emp,emp⟩=eb from HEB.out] at HNe
  cases eb with
  | false =>
   simp only [Bool.not_false] at HNe
   go_wp2_with fail
   refine wp_region_held_drew (S:=(fun W => ∀ o,W.cell? ⟨w.heap.size,o,none⟩=(#[.int .i64 3,.string x1,.string x2,.string x3,.string x4,.slice wo us.length wc]:Array Value)[o]?)) (by kernel_rfl) HT.out.drew.a.1 (fun hHeld=>?_)
   have HT:=HT.out.drew
   obtain ⟨wk,hwk⟩:∃ W,W=wr.drew:=⟨_,rfl⟩
   rw [← hwk] at HT hHeld ⊢
   clear hwk
   (refine hyes 0 ?_);(refine hyes 1 ?_);(refine hyes 3 ?_);(refine hyes 4 ?_);(refine hyes 5 ?_);(refine hyes 6 ?_);(try simp only [Act.put,List.setIfInBounds_toArray,List.set])
   (refine held_call 2 rfl (by kernel_rfl) (fun K hK=>?_);go_simp)
   go_at_call 225;refine (SE.out _).mono ?_;rintro e wz2 ⟨rfl,rfl⟩
   (refine hK.out _ _ ((HT.a.1)) (fun hHeld=>?_);clear hK K;(try simp only [Act.put,List.setIfInBounds_toArray,List.set]))
   (refine hyes 7 ?_);(refine hyes 8 ?_);(try simp only [Act.put,List.setIfInBounds_toArray,List.set])
   (refine hno 9 ?_);(try simp only [Act.put,List.setIfInBounds_toArray,List.set])
   (refine hno 10 ?_);(try simp only [Act.put,List.setIfInBounds_toArray,List.set])
   (refine hno 11 ?_);(try simp only [Act.put,List.setIfInBounds_toArray,List.set])
   (refine hno 12 ?_);(try simp only [Act.put,List.setIfInBounds_toArray,List.set])
   (refine hno 13 ?_);(try simp only [Act.put,List.setIfInBounds_toArray,List.set])
   (refine hno 14 ?_);(try simp only [Act.put,List.setIfInBounds_toArray,List.set])
   (refine hno 15 ?_);(try simp only [Act.put,List.setIfInBounds_toArray,List.set])
   (refine hno 16 ?_);(try simp only [Act.put,List.setIfInBounds_toArray,List.set])
   (refine hno 17 ?_);(try simp only [Act.put,List.setIfInBounds_toArray,List.set])
   (refine hyes 18 ?_);(try simp only [Act.put,List.setIfInBounds_toArray,List.set])
   refine wpAnyH_done (by kernel_rfl) ?_ _
   have HTr:=Lib.hid HT
   clear HT
   go_wp2_with fail
   go_ret
   exact ⟨ret_b (by rw [RS.out];first | rfl | (simp [noR_role]) | (cases rb <;> simp_all)),HTr.out.low⟩
  | true =>
   simp only [Bool.not_true] at HNe
   go_wp2_with fail
   refine wp_region_held_drew (S:=(fun W => ∀ o,W.cell? ⟨w.heap.size,o,none⟩=(#[.int .i64 3,.string x1,.string x2,.string x3,.string x4,.slice wo us.length wc]:Array Value)[o]?)) (by kernel_rfl) HT.out.drew.a.1 (fun hHeld=>?_)
   have HT:=HT.out.drew
   obtain ⟨wk,hwk⟩:∃ W,W=wr.drew:=⟨_,rfl⟩
   rw [← hwk] at HT hHeld ⊢
   clear hwk
   (refine hyes 0 ?_);(refine hyes 1 ?_);(refine hyes 3 ?_);(refine hyes 4 ?_);(refine hyes 5 ?_);(refine hyes 6 ?_);(try simp only [Act.put,List.setIfInBounds_toArray,List.set])
   (refine held_call 2 rfl (by kernel_rfl) (fun K hK=>?_);go_simp)
   go_at_call 225;refine (SE.out _).mono ?_;rintro e wz2 ⟨rfl,rfl⟩
   (refine hK.out _ _ ((HT.a.1)) (fun hHeld=>?_);clear hK K;(try simp only [Act.put,List.setIfInBounds_toArray,List.set]))
   (refine hyes 7 ?_);(refine hyes 8 ?_);(refine hyes 9 ?_);(refine hyes 10 ?_);(try simp only [Act.put,List.setIfInBounds_toArray,List.set])
   (refine held_call 11 rfl (by kernel_rfl) (fun K hK=>?_);go_simp)
   go_at_call 225;refine (SE.out _).mono ?_;rintro e wz11 ⟨rfl,rfl⟩
   (refine hK.out _ _ ((HT.a.1)) (fun hHeld=>?_);clear hK K;(try simp only [Act.put,List.setIfInBounds_toArray,List.set]))
   (refine hyes 12 ?_);(try simp only [Act.put,List.setIfInBounds_toArray,List.set])
   (refine hno 13 ?_);(try simp only [Act.put,List.setIfInBounds_toArray,List.set])
   (refine hno 14 ?_);(try simp only [Act.put,List.setIfInBounds_toArray,List.set])
   (refine hno 15 ?_);(try simp only [Act.put,List.setIfInBounds_toArray,List.set])
   (refine hno 16 ?_);(try simp only [Act.put,List.setIfInBounds_toArray,List.set])
   (refine hyes 17 ?_);(refine hyes 18 ?_);(try simp only [Act.put,List.setIfInBounds_toArray,List.set])
   refine wpAnyH_done (by kernel_rfl) ?_ _
   have HTr:=Lib.hid HT
   clear HT
   obtain ⟨ca,fa,za⟩:=HTr.out.a
   go_wp2_with fail
   refine (LE.out _).mono ?_
   rintro e wl ⟨rfl,rfl⟩
   by_cases h0:us.length=0
   ·have e0:((us.length:Int) == 0)=true:=by rw [beq_iff_eq];omega
    have e3:decide ((us.length:Int)≤12)=true:=decide_eq_true (by omega)
    have e4:decide ((1:Int)≤(us.length:Int))=false:=decide_eq_false (by omega)
    have e5:decide ((0:Int)≤(us.length:Int))=true:=decide_eq_true (by omega)
    rw [h0] at RS
    go_wp2_with fail
    go_ret
    exact ⟨ret_b (by rw [RS.out];rfl),HTr.out.low⟩
   ·by_cases h12:us.length≤12
    ·have e0:((us.length:Int) == 0)=false:=by rw [beq_eq_false_iff_ne];omega
     have e3:decide ((us.length:Int)≤12)=true:=decide_eq_true (by omega)
     have e4:decide ((1:Int)≤(us.length:Int))=true:=decide_eq_true (by omega)
     have e5:decide ((0:Int)≤(us.length:Int))=true:=decide_eq_true (by omega)
     (try rw [decide_eq_false h0] at RS);(try rw [decide_eq_true h12] at RS);(try rw [decide_eq_true (show 0 < us.length by omega)] at RS)
     go_wp2_with fail
     go_ret
     exact ⟨ret_b (by rw [RS.out];rfl),HTr.out.low⟩
    ·have e0:((us.length:Int) == 0)=false:=by rw [beq_eq_false_iff_ne];omega
     have e3:decide ((us.length:Int)≤12)=false:=decide_eq_false (by omega)
     have e4:decide ((1:Int)≤(us.length:Int))=true:=decide_eq_true (by omega)
     have e5:decide ((0:Int)≤(us.length:Int))=true:=decide_eq_true (by omega)
     (try rw [decide_eq_false h0] at RS);(try rw [decide_eq_false h12] at RS);(try rw [decide_eq_true (show 0 < us.length by omega)] at RS)
     go_wp2_with fail
     go_ret
     exact ⟨ret_b (by rw [RS.out];rfl),HTr.out.low⟩
 ·have RS:Hid (res=(eqRl ⟨x3,x4⟩ noR && (decide (us.length≤12) && decide (us.length=0)))):=Lib.hid (RES.out.trans (by rfl))
  clear RES
  rw [show eqRl ⟨x3,x4⟩ noR=eb from HEB.out] at RS
  have SE:=Lib.hid (fun W=>query_secondB 4 W)
  have SB:=Lib.hid (show secB 4=false from rfl)
  rw [SB.out] at SE
  have LE:=Lib.hid (fun W=>query_least 4 W)
  rw [show leastI 4 = -1 from rfl] at LE
  have HNe:=fun W=>role_neq x3 x4 emp emp W
  rw [show eqRl ⟨x3,x4⟩ ⟨emp,emp⟩=eb from HEB.out] at HNe
  cases eb with
  | false =>
   simp only [Bool.not_false] at HNe
   go_wp2_with fail
   refine wp_region_held_drew (S:=(fun W => ∀ o,W.cell? ⟨w.heap.size,o,none⟩=(#[.int .i64 4,.string x1,.string x2,.string x3,.string x4,.slice wo us.length wc]:Array Value)[o]?)) (by kernel_rfl) HT.out.drew.a.1 (fun hHeld=>?_)
   have HT:=HT.out.drew
   obtain ⟨wk,hwk⟩:∃ W,W=wr.drew:=⟨_,rfl⟩
   rw [← hwk] at HT hHeld ⊢
   clear hwk
   (refine hyes 0 ?_);(refine hyes 1 ?_);(refine hyes 3 ?_);(refine hyes 4 ?_);(refine hyes 5 ?_);(refine hyes 6 ?_);(try simp only [Act.put,List.setIfInBounds_toArray,List.set])
   (refine held_call 2 rfl (by kernel_rfl) (fun K hK=>?_);go_simp)
   go_at_call 225;refine (SE.out _).mono ?_;rintro e wz2 ⟨rfl,rfl⟩
   (refine hK.out _ _ ((HT.a.1)) (fun hHeld=>?_);clear hK K;(try simp only [Act.put,List.setIfInBounds_toArray,List.set]))
   (refine hyes 7 ?_);(refine hyes 8 ?_);(try simp only [Act.put,List.setIfInBounds_toArray,List.set])
   (refine hno 9 ?_);(try simp only [Act.put,List.setIfInBounds_toArray,List.set])
   (refine hno 10 ?_);(try simp only [Act.put,List.setIfInBounds_toArray,List.set])
   (refine hno 11 ?_);(try simp only [Act.put,List.setIfInBounds_toArray,List.set])
   (refine hno 12 ?_);(try simp only [Act.put,List.setIfInBounds_toArray,List.set])
   (refine hno 13 ?_);(try simp only [Act.put,List.setIfInBounds_toArray,List.set])
   (refine hno 14 ?_);(try simp only [Act.put,List.setIfInBounds_toArray,List.set])
   (refine hno 15 ?_);(try simp only [Act.put,List.setIfInBounds_toArray,List.set])
   (refine hno 16 ?_);(try simp only [Act.put,List.setIfInBounds_toArray,List.set])
   (refine hno 17 ?_);(try simp only [Act.put,List.setIfInBounds_toArray,List.set])
   (refine hyes 18 ?_);(try simp only [Act.put,List.setIfInBounds_toArray,List.set])
   refine wpAnyH_done (by kernel_rfl) ?_ _
   have HTr:=Lib.hid HT
   clear HT
   go_wp2_with fail
   go_ret
   exact ⟨ret_b (by rw [RS.out];first | rfl | (simp [noR_role]) | (cases rb <;> simp_all)),HTr.out.low⟩
  | true =>
   simp only [Bool.not_true] at HNe
   go_wp2_with fail
   refine wp_region_held_drew (S:=(fun W => ∀ o,W.cell? ⟨w.heap.size,o,none⟩=(#[.int .i64 4,.string x1,.string x2,.string x3,.string x4,.slice wo us.length wc]:Array Value)[o]?)) (by kernel_rfl) HT.out.drew.a.1 (fun hHeld=>?_)
   have HT:=HT.out.drew
   obtain ⟨wk,hwk⟩:∃ W,W=wr.drew:=⟨_,rfl⟩
   rw [← hwk] at HT hHeld ⊢
   clear hwk
   (refine hyes 0 ?_);(refine hyes 1 ?_);(refine hyes 3 ?_);(refine hyes 4 ?_);(refine hyes 5 ?_);(refine hyes 6 ?_);(try simp only [Act.put,List.setIfInBounds_toArray,List.set])
   (refine held_call 2 rfl (by kernel_rfl) (fun K hK=>?_);go_simp)
   go_at_call 225;refine (SE.out _).mono ?_;rintro e wz2 ⟨rfl,rfl⟩
   (refine hK.out _ _ ((HT.a.1)) (fun hHeld=>?_);clear hK K;(try simp only [Act.put,List.setIfInBounds_toArray,List.set]))
   (refine hyes 7 ?_);(refine hyes 8 ?_);(refine hyes 9 ?_);(refine hyes 10 ?_);(try simp only [Act.put,List.setIfInBounds_toArray,List.set])
   (refine held_call 11 rfl (by kernel_rfl) (fun K hK=>?_);go_simp)
   go_at_call 225;refine (SE.out _).mono ?_;rintro e wz11 ⟨rfl,rfl⟩
   (refine hK.out _ _ ((HT.a.1)) (fun hHeld=>?_);clear hK K;(try simp only [Act.put,List.setIfInBounds_toArray,List.set]))
   (refine hyes 12 ?_);(try simp only [Act.put,List.setIfInBounds_toArray,List.set])
   (refine hno 13 ?_);(try simp only [Act.put,List.setIfInBounds_toArray,List.set])
   (refine hno 14 ?_);(try simp only [Act.put,List.setIfInBounds_toArray,List.set])
   (refine hno 15 ?_);(try simp only [Act.put,List.setIfInBounds_toArray,List.set])
   (refine hno 16 ?_);(try simp only [Act.put,List.setIfInBounds_toArray,List.set])
   (refine hyes 17 ?_);(refine hyes 18 ?_);(try simp only [Act.put,List.setIfInBounds_toArray,List.set])
   refine wpAnyH_done (by kernel_rfl) ?_ _
   have HTr:=Lib.hid HT
   clear HT
   obtain ⟨ca,fa,za⟩:=HTr.out.a
   go_wp2_with fail
   refine (LE.out _).mono ?_
   rintro e wl ⟨rfl,rfl⟩
   by_cases h0:us.length=0
   ·have e0:((us.length:Int) == 0)=true:=by rw [beq_iff_eq];omega
    have e3:decide ((us.length:Int)≤12)=true:=decide_eq_true (by omega)
    have e4:decide ((1:Int)≤(us.length:Int))=false:=decide_eq_false (by omega)
    have e5:decide ((0:Int)≤(us.length:Int))=true:=decide_eq_true (by omega)
    rw [h0] at RS
    go_wp2_with fail
    go_ret
    exact ⟨ret_b (by rw [RS.out];rfl),HTr.out.low⟩
   ·by_cases h12:us.length≤12
    ·have e0:((us.length:Int) == 0)=false:=by rw [beq_eq_false_iff_ne];omega
     have e3:decide ((us.length:Int)≤12)=true:=decide_eq_true (by omega)
     have e4:decide ((1:Int)≤(us.length:Int))=true:=decide_eq_true (by omega)
     have e5:decide ((0:Int)≤(us.length:Int))=true:=decide_eq_true (by omega)
     (try rw [decide_eq_false h0] at RS);(try rw [decide_eq_true h12] at RS);(try rw [decide_eq_true (show 0 < us.length by omega)] at RS)
     go_wp2_with fail
     go_ret
     exact ⟨ret_b (by rw [RS.out];rfl),HTr.out.low⟩
    ·have e0:((us.length:Int) == 0)=false:=by rw [beq_eq_false_iff_ne];omega
     have e3:decide ((us.length:Int)≤12)=false:=decide_eq_false (by omega)
     have e4:decide ((1:Int)≤(us.length:Int))=true:=decide_eq_true (by omega)
     have e5:decide ((0:Int)≤(us.length:Int))=true:=decide_eq_true (by omega)
     (try rw [decide_eq_false h0] at RS);(try rw [decide_eq_false h12] at RS);(try rw [decide_eq_true (show 0 < us.length by omega)] at RS)
     go_wp2_with fail
     go_ret
     exact ⟨ret_b (by rw [RS.out];rfl),HTr.out.low⟩
 ·have RS:Hid (res=(isRole ⟨x3,x4⟩ && decide (us.length=0))):=Lib.hid (RES.out.trans (by rfl))
  clear RES
  generalize isRole ⟨x3,x4⟩=rb at IB RS RBN
  have SE:=Lib.hid (fun W=>query_secondB 5 W)
  have SB:=Lib.hid (show secB 5=true from rfl)
  rw [SB.out] at SE
  have LE:=Lib.hid (fun W=>query_least 5 W)
  rw [show leastI 5 = -1 from rfl] at LE
  have HNe:=fun W=>role_neq x3 x4 emp emp W
  rw [show eqRl ⟨x3,x4⟩ ⟨emp,emp⟩=eb from HEB.out] at HNe
  cases eb with
  | false =>
   simp only [Bool.not_false] at HNe
   cases rb with
   | false =>
    go_wp2_with fail
    refine wp_region_held_drew (S:=(fun W => ∀ o,W.cell? ⟨w.heap.size,o,none⟩=(#[.int .i64 5,.string x1,.string x2,.string x3,.string x4,.slice wo us.length wc]:Array Value)[o]?)) (by kernel_rfl) HT.out.drew.a.1 (fun hHeld=>?_)
    have HT:=HT.out.drew
    obtain ⟨wk,hwk⟩:∃ W,W=wr.drew:=⟨_,rfl⟩
    rw [← hwk] at HT hHeld ⊢
    clear hwk
    (refine hyes 0 ?_);(refine hyes 1 ?_);(refine hyes 3 ?_);(refine hyes 4 ?_);(refine hyes 5 ?_);(refine hyes 6 ?_);(try simp only [Act.put,List.setIfInBounds_toArray,List.set])
    (refine held_call 2 rfl (by kernel_rfl) (fun K hK=>?_);go_simp)
    go_at_call 225;refine (SE.out _).mono ?_;rintro e wz2 ⟨rfl,rfl⟩
    (refine hK.out _ _ ((HT.a.1)) (fun hHeld=>?_);clear hK K;(try simp only [Act.put,List.setIfInBounds_toArray,List.set]))
    (refine hyes 7 ?_);(refine hyes 8 ?_);(refine hyes 9 ?_);(refine hyes 10 ?_);(try simp only [Act.put,List.setIfInBounds_toArray,List.set])
    (refine held_call 11 rfl (by kernel_rfl) (fun K hK=>?_);go_simp)
    go_at_call 225;refine (SE.out _).mono ?_;rintro e wz11 ⟨rfl,rfl⟩
    (refine hK.out _ _ ((HT.a.1)) (fun hHeld=>?_);clear hK K;(try simp only [Act.put,List.setIfInBounds_toArray,List.set]))
    (refine hyes 12 ?_);(refine hyes 13 ?_);(refine hyes 14 ?_);(try simp only [Act.put,List.setIfInBounds_toArray,List.set])
    (refine held_call 15 rfl (by kernel_rfl) (fun K hK=>?_);go_simp)
    go_at_call 216;refine (IB.out _).mono ?_;rintro e wz15 ⟨rfl,hbq⟩
    have HT:=HT.later hbq
    clear hbq
    (refine hK.out _ _ ((HT.a.1)) (fun hHeld=>?_);clear hK K;(try simp only [Act.put,List.setIfInBounds_toArray,List.set]))
    (refine hyes 16 ?_);(refine hyes 17 ?_);(refine hyes 18 ?_);(try simp only [Act.put,List.setIfInBounds_toArray,List.set])
    refine wpAnyH_done (by kernel_rfl) ?_ _
    have HTr:=Lib.hid HT
    clear HT
    go_wp2_with fail
    go_ret
    exact ⟨ret_b (by rw [RS.out];rfl),HTr.out.low⟩
   | true =>
    go_wp2_with fail
    refine wp_region_held_drew (S:=(fun W => ∀ o,W.cell? ⟨w.heap.size,o,none⟩=(#[.int .i64 5,.string x1,.string x2,.string x3,.string x4,.slice wo us.length wc]:Array Value)[o]?)) (by kernel_rfl) HT.out.drew.a.1 (fun hHeld=>?_)
    have HT:=HT.out.drew
    obtain ⟨wk,hwk⟩:∃ W,W=wr.drew:=⟨_,rfl⟩
    rw [← hwk] at HT hHeld ⊢
    clear hwk
    (refine hyes 0 ?_);(refine hyes 1 ?_);(refine hyes 3 ?_);(refine hyes 4 ?_);(refine hyes 5 ?_);(refine hyes 6 ?_);(try simp only [Act.put,List.setIfInBounds_toArray,List.set])
    (refine held_call 2 rfl (by kernel_rfl) (fun K hK=>?_);go_simp)
    go_at_call 225;refine (SE.out _).mono ?_;rintro e wz2 ⟨rfl,rfl⟩
    (refine hK.out _ _ ((HT.a.1)) (fun hHeld=>?_);clear hK K;(try simp only [Act.put,List.setIfInBounds_toArray,List.set]))
    (refine hyes 7 ?_);(refine hyes 8 ?_);(refine hyes 9 ?_);(refine hyes 10 ?_);(try simp only [Act.put,List.setIfInBounds_toArray,List.set])
    (refine held_call 11 rfl (by kernel_rfl) (fun K hK=>?_);go_simp)
    go_at_call 225;refine (SE.out _).mono ?_;rintro e wz11 ⟨rfl,rfl⟩
    (refine hK.out _ _ ((HT.a.1)) (fun hHeld=>?_);clear hK K;(try simp only [Act.put,List.setIfInBounds_toArray,List.set]))
    (refine hyes 12 ?_);(refine hyes 13 ?_);(refine hyes 14 ?_);(try simp only [Act.put,List.setIfInBounds_toArray,List.set])
    (refine held_call 15 rfl (by kernel_rfl) (fun K hK=>?_);go_simp)
    go_at_call 216;refine (IB.out _).mono ?_;rintro e wz15 ⟨rfl,hbq⟩
    have HT:=HT.later hbq
    clear hbq
    (refine hK.out _ _ ((HT.a.1)) (fun hHeld=>?_);clear hK K;(try simp only [Act.put,List.setIfInBounds_toArray,List.set]))
    (refine hyes 16 ?_);(refine hyes 17 ?_);(refine hyes 18 ?_);(try simp only [Act.put,List.setIfInBounds_toArray,List.set])
    refine wpAnyH_done (by kernel_rfl) ?_ _
    have HTr:=Lib.hid HT
    clear HT
    obtain ⟨ca,fa,za⟩:=HTr.out.a
    go_wp2_with fail
    refine (LE.out _).mono ?_
    rintro e wl ⟨rfl,rfl⟩
    by_cases h0:us.length=0
    ·have e0:((us.length:Int) == 0)=true:=by rw [beq_iff_eq];omega
     have e3:decide ((us.length:Int)≤12)=true:=decide_eq_true (by omega)
     have e4:decide ((1:Int)≤(us.length:Int))=false:=decide_eq_false (by omega)
     have e5:decide ((0:Int)≤(us.length:Int))=true:=decide_eq_true (by omega)
     rw [h0] at RS
     go_wp2_with fail
     go_ret
     exact ⟨ret_b (by rw [RS.out];rfl),HTr.out.low⟩
    ·by_cases h12:us.length≤12
     ·have e0:((us.length:Int) == 0)=false:=by rw [beq_eq_false_iff_ne];omega
      have e3:decide ((us.length:Int)≤12)=true:=decide_eq_true (by omega)
      have e4:decide ((1:Int)≤(us.length:Int))=true:=decide_eq_true (by omega)
      have e5:decide ((0:Int)≤(us.length:Int))=true:=decide_eq_true (by omega)
      (try rw [decide_eq_false h0] at RS);(try rw [decide_eq_true h12] at RS);(try rw [decide_eq_true (show 0 < us.length by omega)] at RS)
      go_wp2_with fail
      go_ret
      exact ⟨ret_b (by rw [RS.out];rfl),HTr.out.low⟩
     ·have e0:((us.length:Int) == 0)=false:=by rw [beq_eq_false_iff_ne];omega
      have e3:decide ((us.length:Int)≤12)=false:=decide_eq_false (by omega)
      have e4:decide ((1:Int)≤(us.length:Int))=true:=decide_eq_true (by omega)
      have e5:decide ((0:Int)≤(us.length:Int))=true:=decide_eq_true (by omega)
      (try rw [decide_eq_false h0] at RS);(try rw [decide_eq_false h12] at RS);(try rw [decide_eq_true (show 0 < us.length by omega)] at RS)
      go_wp2_with fail
      go_ret
      exact ⟨ret_b (by rw [RS.out];rfl),HTr.out.low⟩
  | true =>
   simp only [Bool.not_true] at HNe
   go_wp2_with fail
   refine wp_region_held_drew (S:=(fun W => ∀ o,W.cell? ⟨w.heap.size,o,none⟩=(#[.int .i64 5,.string x1,.string x2,.string x3,.string x4,.slice wo us.length wc]:Array Value)[o]?)) (by kernel_rfl) HT.out.drew.a.1 (fun hHeld=>?_)
   have HT:=HT.out.drew
   obtain ⟨wk,hwk⟩:∃ W,W=wr.drew:=⟨_,rfl⟩
   rw [← hwk] at HT hHeld ⊢
   clear hwk
   (refine hyes 0 ?_);(refine hyes 1 ?_);(refine hyes 3 ?_);(refine hyes 4 ?_);(refine hyes 5 ?_);(refine hyes 6 ?_);(try simp only [Act.put,List.setIfInBounds_toArray,List.set])
   (refine held_call 2 rfl (by kernel_rfl) (fun K hK=>?_);go_simp)
   go_at_call 225;refine (SE.out _).mono ?_;rintro e wz2 ⟨rfl,rfl⟩
   (refine hK.out _ _ ((HT.a.1)) (fun hHeld=>?_);clear hK K;(try simp only [Act.put,List.setIfInBounds_toArray,List.set]))
   (refine hyes 7 ?_);(refine hyes 8 ?_);(try simp only [Act.put,List.setIfInBounds_toArray,List.set])
   (refine hno 9 ?_);(try simp only [Act.put,List.setIfInBounds_toArray,List.set])
   (refine hno 10 ?_);(try simp only [Act.put,List.setIfInBounds_toArray,List.set])
   (refine hno 11 ?_);(try simp only [Act.put,List.setIfInBounds_toArray,List.set])
   (refine hno 12 ?_);(try simp only [Act.put,List.setIfInBounds_toArray,List.set])
   (refine hno 13 ?_);(try simp only [Act.put,List.setIfInBounds_toArray,List.set])
   (refine hno 14 ?_);(try simp only [Act.put,List.setIfInBounds_toArray,List.set])
   (refine hno 15 ?_);(try simp only [Act.put,List.setIfInBounds_toArray,List.set])
   (refine hno 16 ?_);(try simp only [Act.put,List.setIfInBounds_toArray,List.set])
   (refine hno 17 ?_);(try simp only [Act.put,List.setIfInBounds_toArray,List.set])
   (refine hyes 18 ?_);(try simp only [Act.put,List.setIfInBounds_toArray,List.set])
   refine wpAnyH_done (by kernel_rfl) ?_ _
   have HTr:=Lib.hid HT
   clear HT
   go_wp2_with fail
   go_ret
   exact ⟨ret_b (by rw [RS.out,RBN.out (by first | rfl | trivial)];rfl),HTr.out.low⟩
 ·have RS:Hid (res=(isRole ⟨x3,x4⟩ && decide (us.length=0))):=Lib.hid (RES.out.trans (by rfl))
  clear RES
  generalize isRole ⟨x3,x4⟩=rb at IB RS RBN
  have SE:=Lib.hid (fun W=>query_secondB 6 W)
  have SB:=Lib.hid (show secB 6=true from rfl)
  rw [SB.out] at SE
  have LE:=Lib.hid (fun W=>query_least 6 W)
  rw [show leastI 6 = -1 from rfl] at LE
  have HNe:=fun W=>role_neq x3 x4 emp emp W
  rw [show eqRl ⟨x3,x4⟩ ⟨emp,emp⟩=eb from HEB.out] at HNe
  cases eb with
  | false =>
   simp only [Bool.not_false] at HNe
   cases rb with
   | false =>
    go_wp2_with fail
    refine wp_region_held_drew (S:=(fun W => ∀ o,W.cell? ⟨w.heap.size,o,none⟩=(#[.int .i64 6,.string x1,.string x2,.string x3,.string x4,.slice wo us.length wc]:Array Value)[o]?)) (by kernel_rfl) HT.out.drew.a.1 (fun hHeld=>?_)
    have HT:=HT.out.drew
    obtain ⟨wk,hwk⟩:∃ W,W=wr.drew:=⟨_,rfl⟩
    rw [← hwk] at HT hHeld ⊢
    clear hwk
    (refine hyes 0 ?_);(refine hyes 1 ?_);(refine hyes 3 ?_);(refine hyes 4 ?_);(refine hyes 5 ?_);(refine hyes 6 ?_);(try simp only [Act.put,List.setIfInBounds_toArray,List.set])
    (refine held_call 2 rfl (by kernel_rfl) (fun K hK=>?_);go_simp)
    go_at_call 225;refine (SE.out _).mono ?_;rintro e wz2 ⟨rfl,rfl⟩
    (refine hK.out _ _ ((HT.a.1)) (fun hHeld=>?_);clear hK K;(try simp only [Act.put,List.setIfInBounds_toArray,List.set]))
    (refine hyes 7 ?_);(refine hyes 8 ?_);(refine hyes 9 ?_);(refine hyes 10 ?_);(try simp only [Act.put,List.setIfInBounds_toArray,List.set])
    (refine held_call 11 rfl (by kernel_rfl) (fun K hK=>?_);go_simp)
    go_at_call 225;refine (SE.out _).mono ?_;rintro e wz11 ⟨rfl,rfl⟩
    (refine hK.out _ _ ((HT.a.1)) (fun hHeld=>?_);clear hK K;(try simp only [Act.put,List.setIfInBounds_toArray,List.set]))
    (refine hyes 12 ?_);(refine hyes 13 ?_);(refine hyes 14 ?_);(try simp only [Act.put,List.setIfInBounds_toArray,List.set])
    (refine held_call 15 rfl (by kernel_rfl) (fun K hK=>?_);go_simp)
    go_at_call 216;refine (IB.out _).mono ?_;rintro e wz15 ⟨rfl,hbq⟩
    have HT:=HT.later hbq
    clear hbq
    (refine hK.out _ _ ((HT.a.1)) (fun hHeld=>?_);clear hK K;(try simp only [Act.put,List.setIfInBounds_toArray,List.set]))
    (refine hyes 16 ?_);(refine hyes 17 ?_);(refine hyes 18 ?_);(try simp only [Act.put,List.setIfInBounds_toArray,List.set])
    refine wpAnyH_done (by kernel_rfl) ?_ _
    have HTr:=Lib.hid HT
    clear HT
    go_wp2_with fail
    go_ret
    exact ⟨ret_b (by rw [RS.out];rfl),HTr.out.low⟩
   | true =>
    go_wp2_with fail
    refine wp_region_held_drew (S:=(fun W => ∀ o,W.cell? ⟨w.heap.size,o,none⟩=(#[.int .i64 6,.string x1,.string x2,.string x3,.string x4,.slice wo us.length wc]:Array Value)[o]?)) (by kernel_rfl) HT.out.drew.a.1 (fun hHeld=>?_)
    have HT:=HT.out.drew
    obtain ⟨wk,hwk⟩:∃ W,W=wr.drew:=⟨_,rfl⟩
    rw [← hwk] at HT hHeld ⊢
    clear hwk
    (refine hyes 0 ?_);(refine hyes 1 ?_);(refine hyes 3 ?_);(refine hyes 4 ?_);(refine hyes 5 ?_);(refine hyes 6 ?_);(try simp only [Act.put,List.setIfInBounds_toArray,List.set])
    (refine held_call 2 rfl (by kernel_rfl) (fun K hK=>?_);go_simp)
    go_at_call 225;refine (SE.out _).mono ?_;rintro e wz2 ⟨rfl,rfl⟩
    (refine hK.out _ _ ((HT.a.1)) (fun hHeld=>?_);clear hK K;(try simp only [Act.put,List.setIfInBounds_toArray,List.set]))
    (refine hyes 7 ?_);(refine hyes 8 ?_);(refine hyes 9 ?_);(refine hyes 10 ?_);(try simp only [Act.put,List.setIfInBounds_toArray,List.set])
    (refine held_call 11 rfl (by kernel_rfl) (fun K hK=>?_);go_simp)
    go_at_call 225;refine (SE.out _).mono ?_;rintro e wz11 ⟨rfl,rfl⟩
    (refine hK.out _ _ ((HT.a.1)) (fun hHeld=>?_);clear hK K;(try simp only [Act.put,List.setIfInBounds_toArray,List.set]))
    (refine hyes 12 ?_);(refine hyes 13 ?_);(refine hyes 14 ?_);(try simp only [Act.put,List.setIfInBounds_toArray,List.set])
    (refine held_call 15 rfl (by kernel_rfl) (fun K hK=>?_);go_simp)
    go_at_call 216;refine (IB.out _).mono ?_;rintro e wz15 ⟨rfl,hbq⟩
    have HT:=HT.later hbq
    clear hbq
    (refine hK.out _ _ ((HT.a.1)) (fun hHeld=>?_);clear hK K;(try simp only [Act.put,List.setIfInBounds_toArray,List.set]))
    (refine hyes 16 ?_);(refine hyes 17 ?_);(refine hyes 18 ?_);(try simp only [Act.put,List.setIfInBounds_toArray,List.set])
    refine wpAnyH_done (by kernel_rfl) ?_ _
    have HTr:=Lib.hid HT
    clear HT
    obtain ⟨ca,fa,za⟩:=HTr.out.a
    go_wp2_with fail
    refine (LE.out _).mono ?_
    rintro e wl ⟨rfl,rfl⟩
    by_cases h0:us.length=0
    ·have e0:((us.length:Int) == 0)=true:=by rw [beq_iff_eq];omega
     have e3:decide ((us.length:Int)≤12)=true:=decide_eq_true (by omega)
     have e4:decide ((1:Int)≤(us.length:Int))=false:=decide_eq_false (by omega)
     have e5:decide ((0:Int)≤(us.length:Int))=true:=decide_eq_true (by omega)
     rw [h0] at RS
     go_wp2_with fail
     go_ret
     exact ⟨ret_b (by rw [RS.out];rfl),HTr.out.low⟩
    ·by_cases h12:us.length≤12
     ·have e0:((us.length:Int) == 0)=false:=by rw [beq_eq_false_iff_ne];omega
      have e3:decide ((us.length:Int)≤12)=true:=decide_eq_true (by omega)
      have e4:decide ((1:Int)≤(us.length:Int))=true:=decide_eq_true (by omega)
      have e5:decide ((0:Int)≤(us.length:Int))=true:=decide_eq_true (by omega)
      (try rw [decide_eq_false h0] at RS);(try rw [decide_eq_true h12] at RS);(try rw [decide_eq_true (show 0 < us.length by omega)] at RS)
      go_wp2_with fail
      go_ret
      exact ⟨ret_b (by rw [RS.out];rfl),HTr.out.low⟩
     ·have e0:((us.length:Int) == 0)=false:=by rw [beq_eq_false_iff_ne];omega
      have e3:decide ((us.length:Int)≤12)=false:=decide_eq_false (by omega)
      have e4:decide ((1:Int)≤(us.length:Int))=true:=decide_eq_true (by omega)
      have e5:decide ((0:Int)≤(us.length:Int))=true:=decide_eq_true (by omega)
      (try rw [decide_eq_false h0] at RS);(try rw [decide_eq_false h12] at RS);(try rw [decide_eq_true (show 0 < us.length by omega)] at RS)
      go_wp2_with fail
      go_ret
      exact ⟨ret_b (by rw [RS.out];rfl),HTr.out.low⟩
  | true =>
   simp only [Bool.not_true] at HNe
   go_wp2_with fail
   refine wp_region_held_drew (S:=(fun W => ∀ o,W.cell? ⟨w.heap.size,o,none⟩=(#[.int .i64 6,.string x1,.string x2,.string x3,.string x4,.slice wo us.length wc]:Array Value)[o]?)) (by kernel_rfl) HT.out.drew.a.1 (fun hHeld=>?_)
   have HT:=HT.out.drew
   obtain ⟨wk,hwk⟩:∃ W,W=wr.drew:=⟨_,rfl⟩
   rw [← hwk] at HT hHeld ⊢
   clear hwk
   (refine hyes 0 ?_);(refine hyes 1 ?_);(refine hyes 3 ?_);(refine hyes 4 ?_);(refine hyes 5 ?_);(refine hyes 6 ?_);(try simp only [Act.put,List.setIfInBounds_toArray,List.set])
   (refine held_call 2 rfl (by kernel_rfl) (fun K hK=>?_);go_simp)
   go_at_call 225;refine (SE.out _).mono ?_;rintro e wz2 ⟨rfl,rfl⟩
   (refine hK.out _ _ ((HT.a.1)) (fun hHeld=>?_);clear hK K;(try simp only [Act.put,List.setIfInBounds_toArray,List.set]))
   (refine hyes 7 ?_);(refine hyes 8 ?_);(try simp only [Act.put,List.setIfInBounds_toArray,List.set])
   (refine hno 9 ?_);(try simp only [Act.put,List.setIfInBounds_toArray,List.set])
   (refine hno 10 ?_);(try simp only [Act.put,List.setIfInBounds_toArray,List.set])
   (refine hno 11 ?_);(try simp only [Act.put,List.setIfInBounds_toArray,List.set])
   (refine hno 12 ?_);(try simp only [Act.put,List.setIfInBounds_toArray,List.set])
   (refine hno 13 ?_);(try simp only [Act.put,List.setIfInBounds_toArray,List.set])
   (refine hno 14 ?_);(try simp only [Act.put,List.setIfInBounds_toArray,List.set])
   (refine hno 15 ?_);(try simp only [Act.put,List.setIfInBounds_toArray,List.set])
   (refine hno 16 ?_);(try simp only [Act.put,List.setIfInBounds_toArray,List.set])
   (refine hno 17 ?_);(try simp only [Act.put,List.setIfInBounds_toArray,List.set])
   (refine hyes 18 ?_);(try simp only [Act.put,List.setIfInBounds_toArray,List.set])
   refine wpAnyH_done (by kernel_rfl) ?_ _
   have HTr:=Lib.hid HT
   clear HT
   go_wp2_with fail
   go_ret
   exact ⟨ret_b (by rw [RS.out,RBN.out (by first | rfl | trivial)];rfl),HTr.out.low⟩
end
section
open Go.RowKit Go.Shelf

theorem own_base {w:World} {base base' size n:Nat} {e:TypeId} {v:Value} {xs:List Value} (h:w.ownsRow base e size v n xs) (hb:base'≤base):w.ownsRow base' e size v n xs:=by
 obtain ⟨h1,h2⟩:=h
 refine ⟨h1,?_⟩
 rcases h2 with h2 | ⟨g,cap,cur,rfl,h3,h4⟩
 ·exact .inl h2
 ·exact .inr ⟨g,cap,cur,rfl,Nat.le_trans hb h3,h4⟩
theorem str_CloneO (v:Value) (l:List ByteArray) (w:World) (h:SlA w 1 v l.length (strs l)) (hl:l.length≤100000) :
  Calls Tryz.prog 133 #[v] w fun e w' => ∃ v',e=.returned v'∧w'.ownsRow w.heap.size 9 1 v' l.length (strs l)∧Below w.heap.size w w':=by
 by_cases h0:0 < l.length
 ·obtain ⟨b1,o1,c1,rfl,hc1,hm1,hb1,hx1⟩:=h.pos h0
  refine (Tryz.slices_Clone_string b1 o1 l.length c1 l w (Nat.le_refl _) (by omega) (fun j hj=>by
   rw [hx1 j _ (strs_get hj),List.getD_eq_getElem?_getD,List.getElem?_eq_getElem hj];rfl)).mono ?_
  rintro e w' ⟨v',he,hown,_,hb⟩
  rw [List.take_of_length_le (Nat.le_refl _)] at hown
  exact ⟨v',he,hown,hb⟩
 ·obtain rfl:l=[]:=List.eq_nil_of_length_eq_zero (by omega)
  obtain ⟨ao,ac,rfl⟩:=h.form
  cases ao with
  | none =>
   refine (Tryz.slices_Clone_string_nil _ ac w).mono ?_
   rintro e w' ⟨he,rfl⟩
   exact ⟨_,he,World.ownsRow_nil _ _ _ _,Below.refl _ _⟩
  | some a =>
   refine (Tryz.slices_Clone_string_zero a ac w).mono ?_
   rintro e w' ⟨v',he,hown,_,hb⟩
   exact ⟨v',he,hown,hb⟩
theorem rl_GrowO (n:Nat) (w:World) (hn:n≤2000):Calls Tryz.prog 245 #[.slice none 0 0,.int .i64 n] w fun e w' =>
  ∃ a cap,e=.returned (.slice a 0 cap)∧w'.ownsRow w.heap.size 28 2 (.slice a 0 cap) 0 []∧Below w.heap.size w w':=by
 by_cases h0:0 < n
 ·obtain ⟨inf,hinf,hz0,hz1,hz2⟩:=info_parts rl_info'
  refine (Any8.slices_Grow_grow Tryz.growR inf _ hinf hz0 (by omega) none 0 0 n [] w (Nat.le_refl _) (by omega) (by rw [hz2];omega) (by omega) (by simp) (fun _=>rfl) (fun a h=>by cases h)).mono ?_
  rintro e w' ⟨rfl,rfl⟩
  have hge:=grownCap_ge w (0+n) 0 28
  have hle:=grownCap_le_maxLen w (0+n) 0 28 (by simp only [maxLen];omega)
  refine ⟨_,_,rfl,World.ownsRow_made w.drew _ _ (Nat.le_refl _) hle ?_,(below_drew (Below.refl _ _)).alloc (Nat.le_refl _) _⟩
  rw [Nat.zero_add] at hge hle ⊢
  simp [Builtin.zeroCells,Value.cells]
  rw [show Tryz.growR_ren.t 25=28 from rfl]
  omega
 ·obtain rfl:n=0:=by omega
  refine (Any8.slices_Grow_room Tryz.growR none 0 0 0 w (Nat.le_refl _) (by omega) (by omega) (by omega)).mono ?_
  rintro e w' ⟨rfl,rfl⟩
  exact ⟨_,_,rfl,World.ownsRow_nil _ _ _ _,Below.refl _ _⟩
set_option maxRecDepth 100000 in
set_option maxHeartbeats 4000000 in
theorem rl_ConcatO (g:Nat) (va vb:Value) (l m:List Rl) (w:World) (hg:Blk w g #[va,vb]) (ha:SlA w 2 va l.length (l.flatMap Rl.cells)) (hb:SlA w 2 vb m.length (m.flatMap Rl.cells)) (hl:l.length≤1000) (hm:m.length≤1000) :
  Calls Tryz.prog 175 #[.slice (some ⟨g,0,none⟩) 2 2] w fun e w' => ∃ v,e=.returned v∧w'.ownsRow w.heap.size 28 2 v (l++m).length ((l++m).flatMap Rl.cells)∧Below w.heap.size w w':=by
 have HA:=Lib.hid ha
 have HB:=Lib.hid hb
 have HG:=Lib.hid hg
 obtain ⟨ao,ac,hva⟩:=ha.form
 obtain ⟨bo,bc,hvb⟩:=hb.form
 subst hva hvb
 have GR:Hid (∀ W,Calls Tryz.prog 245 #[.slice none 0 0,.int .i64 ((l.length:Int)+(m.length:Int))] W fun e w' =>
   ∃ a cap,e=.returned (.slice a 0 cap)∧w'.ownsRow W.heap.size 28 2 (.slice a 0 cap) 0 []∧Below W.heap.size W w'):=Lib.hid (fun W=>by
  have h:=rl_GrowO (l.length+m.length) W (by omega)
  rw [Int.natCast_add] at h
  exact h)
 have c0:w.cell? ⟨g,0,none⟩=some (.slice ao l.length ac):=(hg.1 0).trans rfl
 have c1:w.cell? ⟨g,1,none⟩=some (.slice bo m.length bc):=(hg.1 1).trans rfl
 have hgw:g < w.heap.size:=hg.2.2
 clear ha hb hg
 go_enter Tryz.func175,Tryz.ntmps175
 go_wp2
 go_loop [3,11] (fun n i=>(n=.int .i64 0∧i=.int .i64 0)∨(n=.int .i64 l.length∧i=.int .i64 1)∨(n=.int .i64 ((l.length:Int)+(m.length:Int))∧i=.int .i64 2)) (fun _ i=>2 - (intOf i).toNat)
 case atStart=>exact .inl ⟨rfl,rfl⟩
 case round =>
  obtain ⟨rfl,rfl⟩ | ⟨rfl,rfl⟩ | ⟨rfl,rfl⟩:=hrel
  ·have d:decide ((l.length:Int) < 0)=false:=by (rw [decide_eq_false_iff_not];omega)
   have hw:IntKind.i64.wrap ((0:Int)+(l.length:Int))=(l.length:Int):=by rw [Int.zero_add];exact Go.IntWalk.i64_in _ (by omega)
   go_wp2
   exact ⟨.inr (.inl ⟨rfl,rfl⟩),by simp [intOf]⟩
  ·have d:decide ((l.length:Int)+(m.length:Int) < 0)=false:=by (rw [decide_eq_false_iff_not];omega)
   have hw:IntKind.i64.wrap ((l.length:Int)+(m.length:Int))=(l.length:Int)+(m.length:Int):=Go.IntWalk.i64_in _ (by omega)
   go_wp2
   exact ⟨.inr (.inr ⟨rfl,rfl⟩),by simp [intOf]⟩
  ·go_wp2_with fail
   refine (GR.out _).mono ?_
   rintro e w1 ⟨a1,cap1,rfl,hown,hb1⟩
   have HO:=Lib.hid hown
   have HB1:=Lib.hid hb1
   clear hown hb1 c0 c1 hgw
   go_wp2_with fail
   go_loopw [6,27] (fun vo i wr=>Hid (Below w.heap.size w wr)∧((i=.int .i64 0∧Hid (wr.ownsRow w.heap.size 28 2 vo 0 []))∨(i=.int .i64 1∧Hid (wr.ownsRow w.heap.size 28 2 vo l.length (l.flatMap Rl.cells)))∨(i=.int .i64 2∧Hid (wr.ownsRow w.heap.size 28 2 vo (l.length+m.length) ((l++m).flatMap Rl.cells))))) (fun _ i _=>2 - (intOf i).toNat)
   case atStart=>exact ⟨HB1,.inl ⟨rfl,HO⟩⟩
   case round =>
    obtain ⟨HBR,⟨rfl,HOR⟩ | ⟨rfl,HOR⟩ | ⟨rfl,HOR⟩⟩:=hrel
    ·have hbk:=HG.out.below HBR.out
     have c0:wr.cell? ⟨g,0,none⟩=some (.slice ao l.length ac):=(hbk.1 0).trans rfl
     have hgw:g < wr.heap.size:=hbk.2.2
     obtain ⟨xo,xc,rfl⟩:=own_form HOR.out
     clear hbk
     go_wp2_with (at_builtin;refine halt_ ?_)
     unfold Halt_
     refine app_row Tryz.underlying23 rl_info' rfl (by decide) (by decide) rfl _ _ rfl w.heap.size rfl HOR.out rfl (HA.out.below HBR.out) (rls_one _) (by omega) HBR.out.size ?_
     intro a' cap' w3 hown' hgrow
     have HO3:=Lib.hid (show w3.ownsRow w.heap.size 28 2 (.slice a' l.length cap') l.length (l.flatMap Rl.cells) by simpa using hown')
     have HB3:=Lib.hid (below_own HBR.out HOR.out hgrow HBR.out.size (Nat.le_refl _))
     clear hown' hgrow
     go_wp2_with fail
     exact ⟨⟨HB3,.inr (.inl ⟨rfl,HO3⟩)⟩,by simp [intOf]⟩
    ·have hbk:=HG.out.below HBR.out
     have c1:wr.cell? ⟨g,1,none⟩=some (.slice bo m.length bc):=(hbk.1 1).trans rfl
     have hgw:g < wr.heap.size:=hbk.2.2
     obtain ⟨xo,xc,rfl⟩:=own_form HOR.out
     clear hbk
     go_wp2_with (at_builtin;refine halt_ ?_)
     unfold Halt_
     refine app_row Tryz.underlying23 rl_info' rfl (by decide) (by decide) rfl _ _ rfl w.heap.size rfl HOR.out rfl (HB.out.below HBR.out) (rls_one _) (by omega) HBR.out.size ?_
     intro a' cap' w3 hown' hgrow
     have HO3:=Lib.hid (show w3.ownsRow w.heap.size 28 2 (.slice a' (l.length+m.length) cap') (l.length+m.length) ((l++m).flatMap Rl.cells) by rw [rl_flat];exact hown')
     have HB3:=Lib.hid (below_own HBR.out HOR.out hgrow HBR.out.size (Nat.le_refl _))
     clear hown' hgrow
     go_wp2_with fail
     exact ⟨⟨HB3,.inr (.inr ⟨rfl,HO3⟩)⟩,by simp [intOf]⟩
    ·obtain ⟨xo,xc,rfl⟩:=own_form HOR.out
     go_wp2_with fail
     go_ret
     exact ⟨_,rfl,by rw [List.length_append];exact HOR.out,HBR.out⟩
end
section
open Go.RowKit Go.Shelf

theorem query_second (k:Int) (w:World):Calls Tryz.prog 225 #[.int .i64 k] w fun e w'=>e=.returned (.bool (decide (k=5∨k=6)))∧w'=w:=by
 by_cases h5:k=5
 ·subst h5
  go_enter Tryz.func225,Tryz.ntmps225
  go_wp2
  go_ret
  exact ⟨rfl,rfl⟩
 ·by_cases h6:k=6
  ·subst h6
   go_enter Tryz.func225,Tryz.ntmps225
   go_wp2
   go_ret
   exact ⟨rfl,rfl⟩
  ·have hd:=Lib.hid (show decide (k=5∨k=6)=false from decide_eq_false (fun h=>h.elim h5 h6))
   have d5:(k == 5)=false:=by rw [beq_eq_false_iff_ne];exact h5
   have d6:(k == 6)=false:=by rw [beq_eq_false_iff_ne];exact h6
   go_enter Tryz.func225,Tryz.ntmps225
   go_wp2
   go_ret
   exact ⟨by rw [hd.out];rfl,rfl⟩
theorem query_Roles (q:Qv) (w:World) :
  Calls Tryz.prog 235 #[qv q] w fun e w' => ∃ v,e=.returned v∧Sl w' 2 v (rolesQ q).length ((rolesQ q).flatMap Rl.cells)∧Below w.heap.size w w':=by
 have SE:=Lib.hid (fun W=>query_second q.k W)
 have RY:=Lib.hid (fun (h:q.k=5∨q.k=6)=>show rolesQ q=[q.a,q.b] from if_pos h)
 have RN:=Lib.hid (fun (h:¬ (q.k=5∨q.k=6))=>show rolesQ q=[q.a] from if_neg h)
 obtain ⟨k,⟨a1,a2⟩,⟨b1,b2⟩,v⟩:=q
 by_cases hk:k=5∨k=6
 ·have hd:decide (k=5∨k=6)=true:=decide_eq_true hk
  rw [hd] at SE
  rw [RY.out hk]
  clear RY RN hk hd
  go_enter Tryz.func235,Tryz.ntmps235
  go_wp2_with fail
  refine (SE.out _).mono ?_
  rintro e w1 ⟨rfl,rfl⟩
  go_wp2
  go_ret
  exact ⟨.slice (some ⟨w.heap.size+1,0,none⟩) 2 2,rfl,Sl.new _ [.string a1,.string a2,.string b1,.string b2] _ 2 2 (w.heap.size+1) (by simp) rfl (by simp [maxLen]),((Below.refl _ _).alloc (Nat.le_refl _) _).alloc (by simp) _⟩
 ·have hd:decide (k=5∨k=6)=false:=decide_eq_false hk
  rw [hd] at SE
  rw [RN.out hk]
  clear RY RN hk hd
  go_enter Tryz.func235,Tryz.ntmps235
  go_wp2_with fail
  refine (SE.out _).mono ?_
  rintro e w1 ⟨rfl,rfl⟩
  go_wp2
  go_ret
  exact ⟨.slice (some ⟨w.heap.size+1,0,none⟩) 1 1,rfl,Sl.new _ [.string a1,.string a2] _ 2 1 (w.heap.size+1) (by simp) rfl (by simp [maxLen]),((Below.refl _ _).alloc (Nat.le_refl _) _).alloc (by simp) _⟩

def polRoles (l:List St) (g h:List Rl) (qs:List Qv):List Rl:=g++h++l.flatMap rolesS++qs.flatMap rolesQ
theorem rolesS_len (s:St):(rolesS s).length≤3:=by
 unfold rolesS
 split
 ·simp
 ·split <;> simp
theorem rolesQ_len (q:Qv):(rolesQ q).length≤2:=by
 unfold rolesQ
 split <;> simp
theorem push_roles {w wr w3:World} {A:Array Value} {vo:Value} {n m:Nat} {rs ms:List Rl} {a':Option Addr} {cap':Nat} (ht:OneAt w A wr) (hown:wr.ownsRow (w.heap.size+1) 28 2 vo n (rs.flatMap Rl.cells))
  (h:w3.ownsRow (w.heap.size+1) 28 2 (.slice a' (n+m) cap') (n+m) (rs.flatMap Rl.cells++ms.flatMap Rl.cells)) (hg:wr.grownBy w3 vo.ownBlock) :
  w3.ownsRow (w.heap.size+1) 28 2 (.slice a' (n+m) cap') (n+m) ((rs++ms).flatMap Rl.cells)∧OneAt w A w3:=by
 refine ⟨by rw [rl_flat];exact h,ht.a.grown hg (own_gt_ne hown (Nat.lt_succ_self _)),?_⟩
 exact below_own ht.low hown hg (by have:=ht.low.size;omega) (Nat.le_succ _)
set_option maxRecDepth 100000 in
set_option maxHeartbeats 8000000 in
theorem policy_roles (v0 v1 v2 v3:Value) (l:List St) (g h:List Rl) (qs:List Qv) (w:World) (hp:PolAt w v0 v1 v2 v3 l g h qs) (hl:l.length≤100) (hg:g.length≤100) (hh:h.length≤100) (hq:qs.length≤100) :
  Calls Tryz.prog 158 #[pv v0 v1 v2 v3] w fun e w' => ∃ v,e=.returned v∧SlA w' 2 v (polRoles l g h qs).length ((polRoles l g h qs).flatMap Rl.cells)∧(polRoles l g h qs).length≤1000∧Below w.heap.size w w':=by
 have HP:=Lib.hid hp
 have CO:=Lib.hid (fun b W (hb:Below w.heap.size w W) (hx:Blk W b #[v1,v2])=>rl_ConcatO b v1 v2 g h W hx (hp.rg.below hb) (hp.rh.below hb) (by omega) (by omega))
 obtain ⟨a0,c0,rfl⟩:=hp.rs.form
 obtain ⟨a1,c1,rfl⟩:=hp.rg.form
 obtain ⟨a2,c2,rfl⟩:=hp.rh.form
 obtain ⟨a3,c3,rfl⟩:=hp.rq.form
 have HT:=Lib.hid (show OneAt w #[.slice a0 l.length c0,.slice a1 g.length c1,.slice a2 h.length c2,.slice a3 qs.length c3] (w.alloc (.cells #[.slice a0 l.length c0,.slice a1 g.length c1,.slice a2 h.length c2,.slice a3 qs.length c3] 26)) from ⟨Blk.new w _ _,(Below.refl _ _).alloc (Nat.le_refl _) _⟩)
 clear hp
 go_enter Tryz.func158,Tryz.ntmps158
 go_wp2_with fail
 refine (CO.out (w.heap.size+1) _ (((Below.refl _ _).alloc (Nat.le_refl _) _).alloc (by simp) _) (by have:=Blk.new (w.alloc (.cells #[.slice a0 l.length c0,.slice a1 g.length c1,.slice a2 h.length c2,.slice a3 qs.length c3] 26)) #[.slice a1 g.length c1,.slice a2 h.length c2] 23;simpa using this)).mono ?_
 rintro e w1 ⟨vo,rfl,hown,hb⟩
 obtain ⟨r0,hr0⟩:∃ r,r=g++h:=⟨_,rfl⟩
 rw [← hr0] at hown
 have HT:=Lib.hid ((HT.out.alloc _).later hb)
 have HO:=Lib.hid (own_base (base':=w.heap.size+1) hown (by simp))
 obtain ⟨oo,oc,rfl⟩:=own_form hown
 clear hown hb CO
 have hn0:r0.length≤200+3 * 0:=by rw [hr0,List.length_append];omega
 have HE0:=Lib.hid hr0
 clear hr0
 obtain ⟨ca,fa,za⟩:=HT.out.a
 go_wp2_with fail
 clear ca fa za
 go_loopw [3,17] (fun vo i wr => ∃ (k:Nat) (rs:List Rl),k≤l.length∧i=.int .i64 k∧Hid (rs.length≤200+3 * k)∧Hid (OneAt w #[.slice a0 l.length c0,.slice a1 g.length c1,.slice a2 h.length c2,.slice a3 qs.length c3] wr)∧Hid (wr.ownsRow (w.heap.size+1) 28 2 vo rs.length (rs.flatMap Rl.cells))∧Hid (rs=g++h++(l.take k).flatMap rolesS)) (fun _ i _=>l.length - (intOf i).toNat)
 case atStart=>exact ⟨0,_,by omega,rfl,Lib.hid hn0,HT,HO,Lib.hid (by rw [HE0.out];simp)⟩
 case round =>
  clear HT HO hn0 HE0
  obtain ⟨k,rs,hk,rfl,HC,HT,HO,HE⟩:=hrel
  obtain ⟨oo,oc,rfl⟩:=own_form HO.out
  have hrs:=HC.out
  by_cases hlt:k < l.length
  ·obtain ⟨b1,o1,e1,he1,hc1,hm1',hb1,hx1⟩:=HP.out.rs.pos (by omega)
   simp only [Value.slice.injEq,true_and] at he1
   obtain ⟨rfl,rfl⟩:=he1
   obtain ⟨p0,p1,p2,p3,p4,p5,p6,p7,p8⟩:=st_cell (w:=wr) (fun j u hu=>(HT.out.low.cell (p:=⟨b1,o1+j,none⟩) hb1).trans (hx1 j u hu)) k hlt
   have hbr:b1 < wr.heap.size:=Nat.lt_of_lt_of_le hb1 HT.out.low.size
   have HF:=Lib.hid (flat_snocF rolesS hlt)
   have SR:=Lib.hid (fun W=>syn_Roles l[k] W)
   have hms:=rolesS_len l[k]
   clear hx1
   generalize l[k]=x at *
   obtain ⟨xk,⟨x1,x2⟩,xw,⟨x3,x4⟩,⟨x5,x6⟩,xv⟩:=x
   generalize rolesS ⟨xk,⟨x1,x2⟩,xw,⟨x3,x4⟩,⟨x5,x6⟩,xv⟩=ms at SR HF hms
   go_wp2_with fail
   refine (SR.out _).mono ?_
   rintro e w3 ⟨vz,rfl,hz,hb⟩
   have HT3:=Lib.hid ((HT.out.alloc _).later hb)
   have HO3:=Lib.hid (own_below (HO.out.alloc _) hb)
   obtain ⟨zo,zc,rfl⟩:=hz.form
   have HZ:=Lib.hid hz
   clear hz hb SR
   go_wp2_with (at_builtin;refine halt_ ?_)
   unfold Halt_
   refine app_row Tryz.underlying23 rl_info' rfl (by decide) (by decide) rfl _ _ rfl (w.heap.size+1) rfl HO3.out rfl HZ.out.a (rls_one _) (by omega) (by have:=HT3.out.a.2.2;omega) ?_
   intro a' cap' w4 hown' hgrow
   obtain ⟨q1,q2⟩:=push_roles HT3.out HO3.out hown' hgrow
   have HO4:=Lib.hid (show w4.ownsRow (w.heap.size+1) 28 2 (.slice a' (rs.length+ms.length) cap') (rs++ms).length ((rs++ms).flatMap Rl.cells) by rw [List.length_append];exact q1)
   have HT4:=Lib.hid q2
   clear hown' hgrow q1 q2 HO3 HT3 HZ
   go_wp2_with fail
   exact ⟨⟨k+1,rs++ms,by omega,by go_num,Lib.hid (by rw [List.length_append];omega),HT4,HO4,Lib.hid (by rw [HF.out,HE.out];simp only [List.append_assoc])⟩,by simp [intOf];omega⟩
  ·obtain ⟨ca,fa,za⟩:=HT.out.a
   have hn0:rs.length≤500+2 * 0:=by omega
   have HE0:=Lib.hid (show rs=g++h++l.flatMap rolesS by rw [HE.out,List.take_of_length_le (show l.length≤k by omega)])
   clear hrs HC hk HE
   go_wp2_with fail
   clear ca fa za
   go_loopw [3,29] (fun vo i wr => ∃ (k:Nat) (rs:List Rl),k≤qs.length∧i=.int .i64 k∧Hid (rs.length≤500+2 * k)∧Hid (OneAt w #[.slice a0 l.length c0,.slice a1 g.length c1,.slice a2 h.length c2,.slice a3 qs.length c3] wr)∧Hid (wr.ownsRow (w.heap.size+1) 28 2 vo rs.length (rs.flatMap Rl.cells))∧Hid (rs=g++h++l.flatMap rolesS++(qs.take k).flatMap rolesQ)) (fun _ i _=>qs.length - (intOf i).toNat)
   case atStart=>exact ⟨0,_,by omega,rfl,Lib.hid hn0,HT,HO,Lib.hid (by rw [HE0.out];simp)⟩
   case round =>
    clear HT HO hn0 HE0
    obtain ⟨k,rs,hk,rfl,HC,HT,HO,HE⟩:=hrel
    obtain ⟨oo,oc,rfl⟩:=own_form HO.out
    have hrs:=HC.out
    by_cases hlt:k < qs.length
    ·obtain ⟨b1,o1,e1,he1,hc1,hm1',hb1,hx1⟩:=HP.out.rq.pos (by omega)
     simp only [Value.slice.injEq,true_and] at he1
     obtain ⟨rfl,rfl⟩:=he1
     obtain ⟨p0,p1,p2,p3,p4,p5⟩:=q_cell (w:=wr) (fun j u hu=>(HT.out.low.cell (p:=⟨b1,o1+j,none⟩) hb1).trans (hx1 j u hu)) k hlt
     have hbr:b1 < wr.heap.size:=Nat.lt_of_lt_of_le hb1 HT.out.low.size
     have HF:=Lib.hid (flat_snocF rolesQ hlt)
     have SR:=Lib.hid (fun W=>query_Roles qs[k] W)
     have hms:=rolesQ_len qs[k]
     have hqo:=HP.out.lq _ (List.getElem_mem hlt)
     obtain ⟨wo,wc,hw5⟩:∃ a c,qs[k].w=.slice a ((hqo.2.2).choose).length c:=((hqo.2.2).choose_spec.1).form
     generalize (hqo.2.2).choose.length=nw at hw5
     clear hx1 hqo
     generalize qs[k]=x at *
     obtain ⟨xk,⟨x1,x2⟩,⟨x3,x4⟩,xw⟩:=x
     dsimp only at hw5
     subst hw5
     generalize rolesQ ⟨xk,⟨x1,x2⟩,⟨x3,x4⟩,.slice wo nw wc⟩=ms at SR HF hms
     go_wp2_with fail
     refine (SR.out _).mono ?_
     rintro e w3 ⟨vz,rfl,hz,hb⟩
     have HT3:=Lib.hid ((HT.out.alloc _).later hb)
     have HO3:=Lib.hid (own_below (HO.out.alloc _) hb)
     obtain ⟨zo,zc,rfl⟩:=hz.form
     have HZ:=Lib.hid hz
     clear hz hb SR
     go_wp2_with (at_builtin;refine halt_ ?_)
     unfold Halt_
     refine app_row Tryz.underlying23 rl_info' rfl (by decide) (by decide) rfl _ _ rfl (w.heap.size+1) rfl HO3.out rfl HZ.out.a (rls_one _) (by omega) (by have:=HT3.out.a.2.2;omega) ?_
     intro a' cap' w4 hown' hgrow
     obtain ⟨q1,q2⟩:=push_roles HT3.out HO3.out hown' hgrow
     have HO4:=Lib.hid (show w4.ownsRow (w.heap.size+1) 28 2 (.slice a' (rs.length+ms.length) cap') (rs++ms).length ((rs++ms).flatMap Rl.cells) by rw [List.length_append];exact q1)
     have HT4:=Lib.hid q2
     clear hown' hgrow q1 q2 HO3 HT3 HZ
     go_wp2_with fail
     exact ⟨⟨k+1,rs++ms,by omega,by go_num,Lib.hid (by rw [List.length_append];omega),HT4,HO4,Lib.hid (by rw [HF.out,HE.out];simp only [List.append_assoc])⟩,by simp [intOf];omega⟩
    ·have HA:=Lib.hid (show rs=polRoles l g h qs by rw [HE.out,List.take_of_length_le (show qs.length≤k by omega)];rfl)
     have HSL:=Lib.hid (Sl.of_own HO.out).a
     go_wp2
     go_ret
     exact ⟨_,rfl,by rw [← HA.out];exact HSL.out,by rw [← HA.out];omega,HT.out.low⟩
end
end Go.Proofs.YtilgbodgmkmjjaaGreatDoor
