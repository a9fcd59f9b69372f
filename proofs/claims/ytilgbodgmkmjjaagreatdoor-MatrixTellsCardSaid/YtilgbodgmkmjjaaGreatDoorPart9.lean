/- Parts: RlSame StOf Law10R RefRight5 RefRight6 -/
import Derived.Test.YtilgbodgmkmjjaaGreatDoorPart5
import Derived.Test.YtilgbodgmkmjjaaGreatDoorPart8
import Derived.Test.YtilgbodgmkmjjaaGreatDoorPart6
namespace Go.Proofs.YtilgbodgmkmjjaaGreatDoor
section
open Go.RowKit Go.Shelf

theorem same_lenR {l m:List Rl} (h:¬ l.length=m.length):decide (l=m)=false:=decide_eq_false (fun e=>h (by rw [e]))
theorem take_moreR {l m:List Rl} {k:Nat} (h:l.take k=m.take k) (hl:k < l.length) (hm:k < m.length) (e:l[k]=m[k]):l.take (k+1)=m.take (k+1):=by
 rw [List.take_succ_eq_append_getElem hl,List.take_succ_eq_append_getElem hm,h,e]
theorem same_endR {l m:List Rl} {k:Nat} (h:l.take k=m.take k) (hl:¬ k < l.length) (hm:¬ k < m.length):decide (l=m)=true:=by
 rw [List.take_of_length_le (by omega),List.take_of_length_le (by omega)] at h
 exact decide_eq_true h
theorem same_noR {l m:List Rl} {k:Nat} (hl:k < l.length) (hm:k < m.length) (e:¬ l[k]=m[k]):decide (l=m)=false:=decide_eq_false (fun h=>e (by subst h;rfl))

set_option maxRecDepth 100000 in
set_option maxHeartbeats 2000000 in
theorem ref3_SameRolesD (va vb:Value) (l m:List Rl) (w:World) (ha:SlA w 2 va l.length (l.flatMap Rl.cells)) (hb:SlA w 2 vb m.length (m.flatMap Rl.cells)) :
  Calls Tryz.prog 79 #[va,vb] w fun e w'=>e=.returned (.bool (decide (l=m)))∧∃ n,w'=w.drewN n:=by
 have hmax:=ha.max
 have hmax2:=hb.max
 by_cases hl:l.length=m.length
 case neg =>
  have R:=Lib.hid (same_lenR hl)
  have d:((l.length:Int) != (m.length:Int))=true:=by rw [bne_iff_ne];omega
  obtain ⟨a1,c1,rfl⟩:=ha.form
  obtain ⟨a2,c2,rfl⟩:=hb.form
  clear ha hb hl
  go_enter Tryz.func79,Tryz.ntmps79
  go_wp2
  go_ret
  exact ⟨ret_b R.out.symm,0,rfl⟩
 have hNe:=role_neq
 have hne:((l.length:Int) != (m.length:Int))=false:=by rw [hl];simp
 by_cases h0:0 < l.length
 ·obtain ⟨b1,o1,c1,rfl,hc1,hm1,_,hx1⟩:=ha.pos h0
  obtain ⟨b2,o2,c2,rfl,hc2,hm2,_,hx2⟩:=hb.pos (by omega)
  have HX1:=Lib.hid hx1
  have HX2:=Lib.hid hx2
  have HL:=Lib.hid hl
  clear ha hb hx1 hx2 hl
  go_enter Tryz.func79,Tryz.ntmps79
  go_wp2
  go_loopw [13] (fun i wr => ∃ k n:Nat,k≤l.length∧i=.int .i64 k∧wr=w.drewN n∧Hid (l.take k=m.take k)) (fun i _=>l.length - (intOf i).toNat)
  case atStart=>exact ⟨0,0,by omega,rfl,rfl,Lib.hid (by simp)⟩
  case round =>
   obtain ⟨k,n,hk,rfl,rfl,HT⟩:=hrel
   by_cases hlt:k < l.length
   ·have hlt2:k < m.length:=by have:=HL.out;omega
    obtain ⟨p0,p1⟩:=rl_cell HX1.out k hlt
    obtain ⟨q0,q1⟩:=rl_cell HX2.out k hlt2
    by_cases he:l[k]=m[k]
    ·have HN:=Lib.hid (take_moreR HT.out hlt hlt2 he)
     have d1:(!eqRl ⟨l[k].o,l[k].n⟩ ⟨m[k].o,m[k].n⟩)=false:=by
      have:=congrArg (!·) (decide_eq_true he);exact this
     clear he
     go_wp2_with fail
     go_big_quiet (fail)
     go_wp2
     exact ⟨⟨k+1,n+nq,by omega,by go_num,rfl,HN⟩,by simp [intOf];omega⟩
    ·have R:=Lib.hid (same_noR hlt hlt2 he)
     have d1:(!eqRl ⟨l[k].o,l[k].n⟩ ⟨m[k].o,m[k].n⟩)=true:=by
      have:=congrArg (!·) (decide_eq_false he);exact this
     clear he
     go_wp2_with fail
     go_big_quiet (fail)
     go_wp2
     go_ret
     exact ⟨ret_b R.out.symm,n+nq,by simp [World.drewN,Nat.add_assoc]⟩
   ·have R:=Lib.hid (same_endR HT.out hlt (by have:=HL.out;omega))
    go_wp2
    go_ret
    exact ⟨ret_b R.out.symm,n,rfl⟩
 ·have R:=Lib.hid (same_endR (l:=l) (m:=m) (k:=0) (by simp) h0 (by omega))
  obtain ⟨a1,c1,rfl⟩:=ha.form
  obtain ⟨a2,c2,rfl⟩:=hb.form
  have d0:l.length=0:=by omega
  have d02:m.length=0:=by omega
  clear ha hb h0 hmax hl hmax2
  go_enter Tryz.func79,Tryz.ntmps79
  go_wp2
  go_loopw [13] (fun i wr=>i=.int .i64 0∧wr=w) (fun _ _=>0)
  case atStart=>exact ⟨rfl,rfl⟩
  case round =>
   obtain ⟨rfl,rfl⟩:=hrel
   go_wp2
   go_ret
   exact ⟨ret_b R.out.symm,0,rfl⟩

theorem ref3_SameRolesE (va vb:Value) (l m:List Rl) (w:World) (ha:SlA w 2 va l.length (l.flatMap Rl.cells)) (hb:SlA w 2 vb m.length (m.flatMap Rl.cells)) :
  Calls Tryz.prog 79 #[va,vb] w fun e w'=>e=.returned (.bool (decide (l=m)))∧Below w.heap.size w w' :=
 (ref3_SameRolesD va vb l m w ha hb).mono fun e w' ⟨he,n,hn⟩=>⟨he,by rw [hn];exact below_of_drewN n⟩
end
section
open Go.RowKit Go.Shelf

end
section
open Go.RowKit Go.Shelf

theorem ref3_SameB (va vb:Value) (l m:List St) (w:World) (ha:SlA w 9 va l.length (l.flatMap St.cells)) (hb:SlA w 9 vb m.length (m.flatMap St.cells)) :
  Calls Tryz.prog 42 #[va,vb] w fun e w'=>e=.returned (.bool (decide (l=m)))∧Below w.heap.size w w' :=
 (ref3_Same va vb l m w ha hb).mono fun e w' ⟨he,n,hn⟩=>⟨he,by rw [hn];exact below_of_drewN n⟩
end
section
open Go.RowKit Go.Shelf

theorem sortR_row (va:Value) (l:List Rl) (w:World) (ha:SlA w 2 va l.length (l.flatMap Rl.cells)) (hl:l.length≤1000) :
  Calls Tryz.prog 80 #[va] w fun e w' => ∃ v,e=.returned v∧Sl w' 2 v (insAllR [] l).length ((insAllR [] l).flatMap Rl.cells)∧Below w.heap.size w w':=ref5_Sort va l w ha hl

end
section
open Go.RowKit Go.Shelf

def fitsP (l:List St) (g h:List Rl) (qs:List Qv) (F:Qv→List ByteArray):Bool:=decide (qs.length≤16) && (decide ((newB (allPrins l g h qs F)).length≤16) && decide ((newB (allNames l g h qs)).length≤12))
set_option maxRecDepth 100000 in
set_option maxHeartbeats 8000000 in
theorem ref5_FitsL (v0 v1 v2 v3:Value) (l:List St) (g h:List Rl) (qs:List Qv) (w:World) (hp:PolAt w v0 v1 v2 v3 l g h qs) (hl:l.length≤80) (hg:g.length≤40) (hh:h.length≤40) (hq:qs.length≤100) (F:Qv→List ByteArray) (hF:WhoF w qs F) :
  Calls Tryz.prog 81 #[pv v0 v1 v2 v3] w fun e w'=>e=.returned (.bool (fitsP l g h qs F))∧Below w.heap.size w w':=by
 have PR:=Lib.hid (fun W (hb:Below w.heap.size w W)=>ref5_PrinsL v0 v1 v2 v3 l g h qs W (hp.below hb) (by omega) (by omega) (by omega) hq F (hF.below hb))
 have NA:=Lib.hid (fun W (hb:Below w.heap.size w W)=>ref5_NamesL v0 v1 v2 v3 l g h qs W (hp.below hb) (by omega) (by omega) (by omega) hq)
 obtain ⟨a0,c0,rfl⟩:=hp.rs.form
 obtain ⟨a1,c1,rfl⟩:=hp.rg.form
 obtain ⟨a2,c2,rfl⟩:=hp.rh.form
 obtain ⟨a3,c3,rfl⟩:=hp.rq.form
 have HT:=Lib.hid (show OneAt w #[.slice a0 l.length c0,.slice a1 g.length c1,.slice a2 h.length c2,.slice a3 qs.length c3] (w.alloc (.cells #[.slice a0 l.length c0,.slice a1 g.length c1,.slice a2 h.length c2,.slice a3 qs.length c3] 26)) from ⟨Blk.new w _ _,(Below.refl _ _).alloc (Nat.le_refl _) _⟩)
 have d0:decide ((80:Int) < (l.length:Int))=false:=by (rw [decide_eq_false_iff_not];omega)
 have d1:decide ((40:Int) < (g.length:Int))=false:=by (rw [decide_eq_false_iff_not];omega)
 have d2:decide ((40:Int) < (h.length:Int))=false:=by (rw [decide_eq_false_iff_not];omega)
 have RES:=Lib.hid (show fitsP l g h qs F=(decide (qs.length≤16) && (decide ((newB (allPrins l g h qs F)).length≤16) && decide ((newB (allNames l g h qs)).length≤12))) from rfl)
 clear hp hF
 go_enter Tryz.func81,Tryz.ntmps81
 by_cases t3:16 < qs.length
 ·have d3:decide ((16:Int) < (qs.length:Int))=true:=by (rw [decide_eq_true_iff];omega)
  go_wp2
  go_ret
  exact ⟨ret_b (by rw [RES.out,decide_eq_false (by omega)];rfl),HT.out.low⟩
 have hq16:decide (qs.length≤16)=true:=by rw [decide_eq_true_iff];omega
 have d3:decide ((16:Int) < (qs.length:Int))=false:=by (rw [decide_eq_false_iff_not];omega)
 go_wp2_with fail
 refine (PR.out _ HT.out.low).mono ?_
 rintro e w1 ⟨x1,rfl,hx1,hb1⟩
 have HT:=Lib.hid (HT.out.later hb1)
 obtain ⟨hs1,_⟩:=hx1
 have HA1:=Lib.hid hs1.max
 generalize newB (allPrins l g h qs F)=ss at *
 obtain ⟨xo,xc,rfl⟩:=hs1.form
 obtain ⟨ca,fa,za⟩:=HT.out.a
 clear hb1 hs1
 by_cases t4:ss.length≤16
 ·have d4:decide ((ss.length:Int)≤16)=true:=by (rw [decide_eq_true_iff];omega)
  have d4':decide (ss.length≤16)=true:=by (rw [decide_eq_true_iff];omega)
  go_wp2_with fail
  refine (NA.out _ HT.out.low).mono ?_
  rintro e w2 ⟨x2,rfl,hx2,hb2⟩
  have HT2:=Lib.hid (HT.out.later hb2)
  obtain ⟨hu1,_⟩:=hx2
  generalize newB (allNames l g h qs)=us at *
  obtain ⟨yo,yc,rfl⟩:=hu1.form
  clear hb2 hu1
  by_cases t5:us.length≤12
  ·have d5:decide ((us.length:Int)≤12)=true:=by (rw [decide_eq_true_iff];omega)
   have d5':decide (us.length≤12)=true:=by (rw [decide_eq_true_iff];omega)
   go_wp2
   go_ret
   exact ⟨ret_b (by rw [RES.out,hq16,d4',d5'];rfl),HT2.out.low⟩
  ·have d5:decide ((us.length:Int)≤12)=false:=by (rw [decide_eq_false_iff_not];omega)
   have d5':decide (us.length≤12)=false:=by (rw [decide_eq_false_iff_not];omega)
   go_wp2
   go_ret
   exact ⟨ret_b (by rw [RES.out,hq16,d4',d5'];rfl),HT2.out.low⟩
 ·have d4:decide ((ss.length:Int)≤16)=false:=by (rw [decide_eq_false_iff_not];omega)
  have d4':decide (ss.length≤16)=false:=by (rw [decide_eq_false_iff_not];omega)
  go_wp2
  go_ret
  exact ⟨ret_b (by rw [RES.out,hq16,d4'];rfl),HT.out.low⟩

def risesAt (us:List ByteArray) (i:Nat):Bool:=isP 65 90 (bl (us.getD i emp)) && (decide (i=0) || Op.bytesLess (us.getD (i - 1) emp).toList (us.getD i emp).toList)
def rises (us:List ByteArray):Bool:=(List.range us.length).all (risesAt us)
theorem rises_yes {us:List ByteArray} {k:Nat} (hk:¬ k < us.length) (h:∀ j,j < k→risesAt us j=true):rises us=true:=by
 unfold rises;rw [List.all_eq_true]
 intro j hj
 exact h j (by have:=List.mem_range.1 hj;omega)
theorem rises_no {us:List ByteArray} {k:Nat} (hk:k < us.length) (h:risesAt us k=false):rises us=false:=by
 cases hr:rises us with
 | false=>rfl
 | true =>
  unfold rises at hr
  rw [List.all_eq_true] at hr
  rw [hr k (List.mem_range.2 hk)] at h;cases h
theorem getD_at {us:List ByteArray} {k:Nat} (hk:k < us.length):us.getD k emp=us[k]:=by rw [List.getD_eq_getElem?_getD,List.getElem?_eq_getElem hk];rfl
def rightQ (q:Qv) (us:List ByteArray):Bool :=
 decide (1≤q.k) && (decide (q.k≤6) && (isRole q.a && (rises us &&
 (if 5≤q.k then isRole q.b && decide (us.length=0) else eqRl q.b noR && (decide (us.length≤12) && (if q.k=4 then decide (us.length=0) else decide (q.k=3) || decide (0 < us.length)))))))
set_option maxRecDepth 100000 in
set_option maxHeartbeats 8000000 in
theorem ref4_RightL (q:Qv) (us:List ByteArray) (w:World) (hla:q.a.le 9223372036854775807) (hlb:q.b.le 9223372036854775807) (hu1:SlA w 1 q.w us.length (strs us)) (hu3:∀ s∈us,s.size≤9223372036854775807):Calls Tryz.prog 78 #[qv q] w fun e w'=>e=.returned (.bool (rightQ q us))∧Below w.heap.size w w':=by
 have RES:=Lib.hid (show rightQ q us=(decide (1≤q.k) && (decide (q.k≤6) && (isRole q.a && (rises us && (if 5≤q.k then isRole q.b && decide (us.length=0) else eqRl q.b noR && (decide (us.length≤12) && (if q.k=4 then decide (us.length=0) else decide (q.k=3) || decide (0 < us.length)))))))) from rfl)
 generalize rightQ q us=res at RES ⊢
 obtain ⟨xk,⟨x1,x2⟩,⟨x3,x4⟩,wv⟩:=q
 have HU:=Lib.hid hu1
 have HUZ:=Lib.hid hu3
 have hmax:=hu1.max
 dsimp only at RES hu1 hla hlb
 have IA:=Lib.hid (fun W=>ref3_IsRoleM ⟨x1,x2⟩ W hla)
 have IB:=Lib.hid (fun W=>ref3_IsRoleM ⟨x3,x4⟩ W hlb)
 generalize isRole ⟨x1,x2⟩=ra at IA RES
 generalize isRole ⟨x3,x4⟩=rb at IB RES
 obtain ⟨wo,wc,rfl⟩:=hu1.form
 have HT:=Lib.hid (show OneAt w #[.int .i64 xk,.string x1,.string x2,.string x3,.string x4,.slice wo us.length wc] (w.alloc (.cells #[.int .i64 xk,.string x1,.string x2,.string x3,.string x4,.slice wo us.length wc] 50)) from ⟨Blk.new w _ _,(Below.refl _ _).alloc (Nat.le_refl _) _⟩)
 clear hla hlb hu1 hu3
 go_enter Tryz.func78,Tryz.ntmps78
 by_cases k1:xk < 1
 ·have d1:decide (xk < 1)=true:=decide_eq_true k1
  have R:=Lib.hid (show res=false by rw [RES.out,decide_eq_false (show ¬ 1≤xk by omega)];rfl)
  clear k1
  go_wp2
  go_ret
  exact ⟨ret_b R.out.symm,HT.out.low⟩
 have d1:decide (xk < 1)=false:=decide_eq_false k1
 by_cases k6:6 < xk
 ·have d6:decide (6 < xk)=true:=decide_eq_true k6
  have R:=Lib.hid (show res=false by rw [RES.out,decide_eq_true (show 1≤xk by omega),decide_eq_false (show ¬ xk≤6 by omega)];rfl)
  clear k1 k6
  go_wp2
  go_ret
  exact ⟨ret_b R.out.symm,HT.out.low⟩
 have d6:decide (6 < xk)=false:=decide_eq_false k6
 rw [decide_eq_true (show 1≤xk by omega),decide_eq_true (show xk≤6 by omega),Bool.true_and,Bool.true_and] at RES
 have HK:=Lib.hid (And.intro k1 k6)
 clear k1 k6
 go_wp2_with fail
 refine (IA.out _).mono ?_
 rintro e w1 ⟨rfl,hb1⟩
 have HT:=Lib.hid (HT.out.later hb1)
 clear hb1
 cases ra with
 | false =>
  go_wp2
  go_ret
  exact ⟨ret_b (by rw [RES.out];rfl),HT.out.low⟩
 | true =>
 rw [Bool.true_and] at RES
 obtain ⟨ca,fa,za⟩:=HT.out.a
 go_wp2_with fail
 clear ca fa za
 go_loopw [22] (fun i wr => ∃ k:Nat,k≤us.length∧i=.int .i64 k∧Hid (OneAt w #[.int .i64 xk,.string x1,.string x2,.string x3,.string x4,.slice wo us.length wc] wr)∧Hid (∀ j,j < k→risesAt us j=true)) (fun i _=>us.length - (intOf i).toNat)
 case atStart=>exact ⟨0,by omega,rfl,HT,Lib.hid (fun j h=>absurd h (by omega))⟩
 case round =>
  clear HT
  obtain ⟨k,hk,rfl,HT,HJ⟩:=hrel
  obtain ⟨ca,fa,za⟩:=HT.out.a
  by_cases hlt:k < us.length
  ·obtain ⟨b1,o1,c1,he1,hc1,hm1,hb1,hx1⟩:=HU.out.pos (by omega)
   simp only [Value.slice.injEq,true_and] at he1
   obtain ⟨rfl,rfl⟩:=he1
   have p0:=(HT.out.low.cell (p:=⟨b1,o1+k,none⟩) hb1).trans (hx1 k _ (strs_get hlt))
   have hbr:b1 < wr.heap.size:=Nat.lt_of_lt_of_le hb1 HT.out.low.size
   have IP:=Lib.hid (fun W=>ref1_IsPrin us[k] W (HUZ.out _ (List.getElem_mem hlt)))
   have HRA:=Lib.hid (show risesAt us k=(isP 65 90 (bl us[k]) && (decide (k=0) || Op.bytesLess (us.getD (k - 1) emp).toList us[k].toList)) by unfold risesAt;rw [getD_at hlt])
   have HJS:Hid (risesAt us k=true→∀ j,j < k+1→risesAt us j=true):=Lib.hid (fun h j hj=>by
    by_cases e:j=k
    ·rw [e];exact h
    ·exact HJ.out j (by omega))
   have HNO:=Lib.hid (fun (h:risesAt us k=false)=>show res=false by rw [RES.out,rises_no hlt h];rfl)
   generalize isP 65 90 (bl us[k])=rp at IP HRA
   cases rp with
   | false =>
    clear hx1
    go_wp2_with fail
    refine (IP.out _).mono ?_
    rintro e w2 ⟨rfl,rfl⟩
    go_wp2
    go_ret
    exact ⟨ret_b (HNO.out (by rw [HRA.out];rfl)).symm,HT.out.low⟩
   | true =>
    by_cases hk0:k=0
    ·have dk:decide (0 < k)=false:=by (rw [decide_eq_false_iff_not];omega)
     have HS:=Lib.hid (HJS.out (by rw [HRA.out,decide_eq_true hk0];rfl))
     clear hx1 hk0
     go_wp2_with fail
     refine (IP.out _).mono ?_
     rintro e w2 ⟨rfl,rfl⟩
     go_wp2
     exact ⟨⟨k+1,by omega,by go_num,HT,HS⟩,by simp [intOf];omega⟩
    ·obtain ⟨m,hm⟩:∃ m,k=m+1:=⟨k - 1,by omega⟩
     have dk:decide (0 < k)=true:=by (rw [decide_eq_true_iff];omega)
     have hw1:IntKind.i64.wrap ((k:Int) - 1)=(m:Int):=by rw [show (k:Int) - 1=(m:Int) by omega];exact Go.IntWalk.i64_in _ (by omega)
     have hml:m < us.length:=by omega
     have hmi:(0:Int)≤(m:Int):=by omega
     have q0:=(HT.out.low.cell (p:=⟨b1,o1+m,none⟩) hb1).trans (hx1 m _ (strs_get hml))
     rw [decide_eq_false hk0,Bool.false_or,show k - 1=m by omega,getD_at hml,Bool.true_and] at HRA
     clear hx1 hk0 hm
     go_wp2_with fail
     refine (IP.out _).mono ?_
     rintro e w2 ⟨rfl,rfl⟩
     generalize us[k]=sk at *
     generalize us[m]=sm at *
     cases hbl:Op.bytesLess sm.toList sk.toList with
     | false =>
      have hle:Op.bytesLess sm.toList sk.toList=false:=hbl
      go_wp2
      go_ret
      exact ⟨ret_b (HNO.out (by rw [HRA.out];exact hbl)).symm,HT.out.low⟩
     | true =>
      have hle:Op.bytesLess sm.toList sk.toList=true:=hbl
      have HS:=Lib.hid (HJS.out (by rw [HRA.out];exact hbl))
      go_wp2
      exact ⟨⟨k+1,by omega,by go_num,HT,HS⟩,by simp [intOf];omega⟩
  ·rw [rises_yes hlt HJ.out,Bool.true_and] at RES
   obtain ⟨k1,k6⟩:=HK.out
   by_cases h0:us.length=0
   ·have e0:((us.length:Int) == 0)=true:=by rw [beq_iff_eq];omega
    have e1:decide (0 < us.length)=false:=decide_eq_false (by omega)
    have e1':decide ((0:Int) < (us.length:Int))=false:=decide_eq_false (by omega)
    have e2:decide (us.length=0)=true:=decide_eq_true h0
    have e3:decide (us.length≤12)=true:=decide_eq_true (by omega)
    have e3':decide ((12:Int) < (us.length:Int))=false:=decide_eq_false (by omega)
    rw [e1,e2,e3] at RES
    clear HJ
    by_cases k5:5≤xk
    ·have d5:decide (5≤xk)=true:=decide_eq_true k5
     rw [if_pos k5] at RES
     clear k5 k1 k6
     go_wp2_with fail
     refine (IB.out _).mono ?_
     rintro e w2 ⟨rfl,hb2⟩
     have HT2:=Lib.hid (HT.out.later hb2)
     obtain ⟨ca,fa,za⟩:=HT2.out.a
     clear hb2
     cases rb with
     | false =>
      go_wp2
      go_ret
      exact ⟨ret_b (by rw [RES.out];rfl),HT2.out.low⟩
     | true =>
      go_wp2
      go_ret
      exact ⟨ret_b (by rw [RES.out];rfl),HT2.out.low⟩
    ·have d5:decide (5≤xk)=false:=decide_eq_false k5
     rw [if_neg k5] at RES
     have hNe:∀ W,(binOp .neq 28 (.agg #[.string x3,.string x4]) (.agg #[.string emp,.string emp])).run Tryz.prog W=.ok (.bool (!eqRl ⟨x3,x4⟩ noR)) W:=fun W=>role_neq x3 x4 emp emp W
     generalize eqRl ⟨x3,x4⟩ noR=ern at hNe RES
     by_cases k4:xk=4
     ·have d4:(xk == 4)=true:=beq_iff_eq.2 k4
      rw [if_pos k4] at RES
      clear k5 k1 k6 k4
      cases ern with
      | false =>
       go_wp2
       go_ret
       exact ⟨ret_b (by rw [RES.out];rfl),HT.out.low⟩
      | true =>
       go_wp2
       go_ret
       exact ⟨ret_b (by rw [RES.out];rfl),HT.out.low⟩
     ·have d4:(xk == 4)=false:=beq_eq_false_iff_ne.2 k4
      rw [if_neg k4] at RES
      by_cases k3:xk=3
      ·have d3:(xk == 3)=true:=beq_iff_eq.2 k3
       rw [decide_eq_true k3] at RES
       clear k5 k1 k6 k4 k3
       cases ern with
       | false =>
        go_wp2
        go_ret
        exact ⟨ret_b (by rw [RES.out];rfl),HT.out.low⟩
       | true =>
        go_wp2
        go_ret
        exact ⟨ret_b (by rw [RES.out];rfl),HT.out.low⟩
      ·have d3:(xk == 3)=false:=beq_eq_false_iff_ne.2 k3
       rw [decide_eq_false k3] at RES
       clear k5 k1 k6 k4 k3
       cases ern with
       | false =>
        go_wp2
        go_ret
        exact ⟨ret_b (by rw [RES.out];rfl),HT.out.low⟩
       | true =>
        go_wp2
        go_ret
        exact ⟨ret_b (by rw [RES.out];rfl),HT.out.low⟩
   ·have e0:((us.length:Int) == 0)=false:=by rw [beq_eq_false_iff_ne];omega
    have e1:decide (0 < us.length)=true:=decide_eq_true (by omega)
    have e1':decide ((0:Int) < (us.length:Int))=true:=decide_eq_true (by omega)
    have e2:decide (us.length=0)=false:=decide_eq_false h0
    by_cases h12:us.length≤12
    ·have e3:decide (us.length≤12)=true:=decide_eq_true (by omega)
     have e3':decide ((12:Int) < (us.length:Int))=false:=decide_eq_false (by omega)
     rw [e1,e2,e3] at RES
     clear HJ
     by_cases k5:5≤xk
     ·have d5:decide (5≤xk)=true:=decide_eq_true k5
      rw [if_pos k5] at RES
      clear k5 k1 k6
      go_wp2_with fail
      refine (IB.out _).mono ?_
      rintro e w2 ⟨rfl,hb2⟩
      have HT2:=Lib.hid (HT.out.later hb2)
      obtain ⟨ca,fa,za⟩:=HT2.out.a
      clear hb2
      cases rb with
      | false =>
       go_wp2
       go_ret
       exact ⟨ret_b (by rw [RES.out];rfl),HT2.out.low⟩
      | true =>
       go_wp2
       go_ret
       exact ⟨ret_b (by rw [RES.out];rfl),HT2.out.low⟩
     ·have d5:decide (5≤xk)=false:=decide_eq_false k5
      rw [if_neg k5] at RES
      have hNe:∀ W,(binOp .neq 28 (.agg #[.string x3,.string x4]) (.agg #[.string emp,.string emp])).run Tryz.prog W=.ok (.bool (!eqRl ⟨x3,x4⟩ noR)) W:=fun W=>role_neq x3 x4 emp emp W
      generalize eqRl ⟨x3,x4⟩ noR=ern at hNe RES
      by_cases k4:xk=4
      ·have d4:(xk == 4)=true:=beq_iff_eq.2 k4
       rw [if_pos k4] at RES
       clear k5 k1 k6 k4
       cases ern with
       | false =>
        go_wp2
        go_ret
        exact ⟨ret_b (by rw [RES.out];rfl),HT.out.low⟩
       | true =>
        go_wp2
        go_ret
        exact ⟨ret_b (by rw [RES.out];rfl),HT.out.low⟩
      ·have d4:(xk == 4)=false:=beq_eq_false_iff_ne.2 k4
       rw [if_neg k4] at RES
       by_cases k3:xk=3
       ·have d3:(xk == 3)=true:=beq_iff_eq.2 k3
        rw [decide_eq_true k3] at RES
        clear k5 k1 k6 k4 k3
        cases ern with
        | false =>
         go_wp2
         go_ret
         exact ⟨ret_b (by rw [RES.out];rfl),HT.out.low⟩
        | true =>
         go_wp2
         go_ret
         exact ⟨ret_b (by rw [RES.out];rfl),HT.out.low⟩
       ·have d3:(xk == 3)=false:=beq_eq_false_iff_ne.2 k3
        rw [decide_eq_false k3] at RES
        clear k5 k1 k6 k4 k3
        cases ern with
        | false =>
         go_wp2
         go_ret
         exact ⟨ret_b (by rw [RES.out];rfl),HT.out.low⟩
        | true =>
         go_wp2
         go_ret
         exact ⟨ret_b (by rw [RES.out];rfl),HT.out.low⟩
    ·have e3:decide (us.length≤12)=false:=decide_eq_false (by omega)
     have e3':decide ((12:Int) < (us.length:Int))=true:=decide_eq_true (by omega)
     rw [e1,e2,e3] at RES
     clear HJ
     by_cases k5:5≤xk
     ·have d5:decide (5≤xk)=true:=decide_eq_true k5
      rw [if_pos k5] at RES
      clear k5 k1 k6
      go_wp2_with fail
      refine (IB.out _).mono ?_
      rintro e w2 ⟨rfl,hb2⟩
      have HT2:=Lib.hid (HT.out.later hb2)
      obtain ⟨ca,fa,za⟩:=HT2.out.a
      clear hb2
      cases rb with
      | false =>
       go_wp2
       go_ret
       exact ⟨ret_b (by rw [RES.out];rfl),HT2.out.low⟩
      | true =>
       go_wp2
       go_ret
       exact ⟨ret_b (by rw [RES.out];rfl),HT2.out.low⟩
     ·have d5:decide (5≤xk)=false:=decide_eq_false k5
      rw [if_neg k5] at RES
      have hNe:∀ W,(binOp .neq 28 (.agg #[.string x3,.string x4]) (.agg #[.string emp,.string emp])).run Tryz.prog W=.ok (.bool (!eqRl ⟨x3,x4⟩ noR)) W:=fun W=>role_neq x3 x4 emp emp W
      generalize eqRl ⟨x3,x4⟩ noR=ern at hNe RES
      by_cases k4:xk=4
      ·have d4:(xk == 4)=true:=beq_iff_eq.2 k4
       rw [if_pos k4] at RES
       clear k5 k1 k6 k4
       cases ern with
       | false =>
        go_wp2
        go_ret
        exact ⟨ret_b (by rw [RES.out];rfl),HT.out.low⟩
       | true =>
        go_wp2
        go_ret
        exact ⟨ret_b (by rw [RES.out];rfl),HT.out.low⟩
      ·have d4:(xk == 4)=false:=beq_eq_false_iff_ne.2 k4
       rw [if_neg k4] at RES
       by_cases k3:xk=3
       ·have d3:(xk == 3)=true:=beq_iff_eq.2 k3
        rw [decide_eq_true k3] at RES
        clear k5 k1 k6 k4 k3
        cases ern with
        | false =>
         go_wp2
         go_ret
         exact ⟨ret_b (by rw [RES.out];rfl),HT.out.low⟩
        | true =>
         go_wp2
         go_ret
         exact ⟨ret_b (by rw [RES.out];rfl),HT.out.low⟩
       ·have d3:(xk == 3)=false:=beq_eq_false_iff_ne.2 k3
        rw [decide_eq_false k3] at RES
        clear k5 k1 k6 k4 k3
        cases ern with
        | false =>
         go_wp2
         go_ret
         exact ⟨ret_b (by rw [RES.out];rfl),HT.out.low⟩
        | true =>
         go_wp2
         go_ret
         exact ⟨ret_b (by rw [RES.out];rfl),HT.out.low⟩
def RightP (l:List St) (g h:List Rl) (qs:List Qv) (F:Qv→List ByteArray):Prop:=(∀ x∈l,rightS x=true)∧(∀ x∈g++h,isRole x=true)∧(∀ q∈qs,rightQ q (F q)=true)∧l=insAll [] l∧g=insAllR [] g∧h=insAllR [] h∧fitsP l g h qs F=true
def RightI (l:List St) (g h:List Rl) (qs:List Qv) (F:Qv→List ByteArray) (e:Ending):Prop:=∃ b,e=.returned (.bool b)∧(b=true↔RightP l g h qs F)
theorem rightI_no {l:List St} {g h:List Rl} {qs:List Qv} {F:Qv→List ByteArray} (hn:¬ RightP l g h qs F):RightI l g h qs F (.returned (.bool false)):=⟨false,rfl,⟨(fun h=>by cases h),fun h=>absurd h hn⟩⟩
set_option maxRecDepth 100000 in
set_option maxHeartbeats 8000000 in
theorem ref5_RightL (v0 v1 v2 v3:Value) (l:List St) (g h:List Rl) (qs:List Qv) (w:World) (hp:PolAt w v0 v1 v2 v3 l g h qs) (hl:l.length≤30) (hg:g.length≤30) (hh:h.length≤30) (hq:qs.length≤30) (hl4:allLe l 40) (F:Qv→List ByteArray) (hF:WhoF w qs F) (hFs:∀ q∈qs,∀ s∈F q,s.size≤9223372036854775807) :
  Calls Tryz.prog 14 #[pv v0 v1 v2 v3] w fun e w'=>RightI l g h qs F e∧Below w.heap.size w w':=by
 have HP:=Lib.hid hp
 have FI:=Lib.hid (fun W (hb:Below w.heap.size w W)=>ref5_FitsL v0 v1 v2 v3 l g h qs W (hp.below hb) (by omega) (by omega) (by omega) (by omega) F (hF.below hb))
 have S3:=Lib.hid (fun W (hb:Below w.heap.size w W)=>ref3_Sort v0 l W (hp.rs.below hb) (by omega))
 have SG:=Lib.hid (fun W (hb:Below w.heap.size w W)=>sortR_row v1 g W (hp.rg.below hb) (by omega))
 have SH:=Lib.hid (fun W (hb:Below w.heap.size w W)=>sortR_row v2 h W (hp.rh.below hb) (by omega))
 have RI:=Lib.hid (fun k (hk:k < l.length) W=>ref3_Right l[k] W ((hl4 _ (List.getElem_mem hk)).mono (by decide)))
 have RQ:=Lib.hid (fun k (hk:k < qs.length) W (hb:Below w.heap.size w W)=>ref4_RightL qs[k] (F qs[k]) W (hp.lq _ (List.getElem_mem hk)).1 (hp.lq _ (List.getElem_mem hk)).2.1 ((hF _ (List.getElem_mem hk)).1.below hb) (hFs _ (List.getElem_mem hk)))
 obtain ⟨a0,c0,rfl⟩:=hp.rs.form
 obtain ⟨a1,c1,rfl⟩:=hp.rg.form
 obtain ⟨a2,c2,rfl⟩:=hp.rh.form
 obtain ⟨a3,c3,rfl⟩:=hp.rq.form
 have HT:=Lib.hid (show OneAt w #[.slice a0 l.length c0,.slice a1 g.length c1,.slice a2 h.length c2,.slice a3 qs.length c3] (w.alloc (.cells #[.slice a0 l.length c0,.slice a1 g.length c1,.slice a2 h.length c2,.slice a3 qs.length c3] 26)) from ⟨Blk.new w _ _,(Below.refl _ _).alloc (Nat.le_refl _) _⟩)
 have HD:=Lib.hid (show RightP l g h qs F↔(∀ x∈l,rightS x=true)∧(∀ x∈g++h,isRole x=true)∧(∀ q∈qs,rightQ q (F q)=true)∧l=insAll [] l∧g=insAllR [] g∧h=insAllR [] h∧fitsP l g h qs F=true from Iff.rfl)
 clear hp hF hFs hl4
 generalize fitsP l g h qs F=ff at FI HD
 go_enter Tryz.func14,Tryz.ntmps14
 go_wp2_with fail
 go_loopw [12] (fun i wr => ∃ k:Nat,k≤l.length∧i=.int .i64 k∧Hid (OneAt w #[.slice a0 l.length c0,.slice a1 g.length c1,.slice a2 h.length c2,.slice a3 qs.length c3] wr)∧Hid (∀ j (hj:j < l.length),j < k→rightS l[j]=true)) (fun i _=>l.length - (intOf i).toNat)
 case atStart=>exact ⟨0,by omega,rfl,HT,Lib.hid (fun _ _ h=>absurd h (by omega))⟩
 case round =>
  clear HT
  obtain ⟨k,hk,rfl,HT,HJ⟩:=hrel
  by_cases hlt:k < l.length
  ·obtain ⟨b1,o1,e1,he1,hc1,hm1',hb1,hx1⟩:=HP.out.rs.pos (by omega)
   simp only [Value.slice.injEq,true_and] at he1
   obtain ⟨rfl,rfl⟩:=he1
   obtain ⟨p0,p1,p2,p3,p4,p5,p6,p7,p8⟩:=st_cell (w:=wr) (fun j u hu=>(HT.out.low.cell (p:=⟨b1,o1+j,none⟩) hb1).trans (hx1 j u hu)) k hlt
   have hbr:b1 < wr.heap.size:=Nat.lt_of_lt_of_le hb1 HT.out.low.size
   have RK:=Lib.hid (fun W=>RI.out k hlt W)
   have HJ2:Hid (rightS l[k]=true→∀ j (hj:j < l.length),j < k+1→rightS l[j]=true):=Lib.hid (fun hpk j hj hjk=>by
    by_cases h:j < k
    ·exact HJ.out j hj h
    ·obtain rfl:j=k:=by omega
     exact hpk)
   have hek:l[k]=⟨l[k].k,⟨l[k].h.o,l[k].h.n⟩,l[k].who,⟨l[k].a.o,l[k].a.n⟩,⟨l[k].b.o,l[k].b.n⟩,l[k].via⟩:=rfl
   have HN1:Hid (rightS l[k]=false→¬ RightP l g h qs F):=Lib.hid (fun hf hr=>by rw [(HD.out.1 hr).1 _ (List.getElem_mem hlt)] at hf;cases hf)
   clear hx1
   generalize rightS l[k]=rr at RK HJ2 HN1
   generalize l[k]=x at *
   obtain ⟨xk,⟨x1,x2⟩,xw,⟨x3,x4⟩,⟨x5,x6⟩,xv⟩:=x
   clear hek
   have HT1:=Lib.hid (HT.out.alloc (.cells #[.int .i64 xk,.string x1,.string x2,.string xw,.string x3,.string x4,.string x5,.string x6,.string xv] 74))
   go_wp2_with fail
   refine (RK.out _).mono ?_
   rintro e w2 ⟨rfl,hb2⟩
   have HT2:=Lib.hid (HT1.out.later hb2)
   clear hb2
   cases rr with
   | false =>
    go_wp2
    go_ret
    exact ⟨rightI_no (HN1.out (by first | rfl | trivial)),HT2.out.low⟩
   | true =>
    have HJ3:=Lib.hid (HJ2.out (by first | rfl | trivial))
    go_wp2
    exact ⟨⟨k+1,by omega,by go_num,HT2,HJ3⟩,by simp [intOf];omega⟩
  ·have HALL:=Lib.hid (show ∀ x∈l,rightS x=true from fun x hx=>by
    obtain ⟨j,hj,rfl⟩:=List.getElem_of_mem hx
    exact HJ.out j hj (by omega))
   clear HJ
   obtain ⟨inf,hi,hz0,hz1,hz2⟩:=info_parts rl_info'
   have HINF:=Lib.hid hi
   have T2:=HT.out.drew
   have hown:(wr.drew.alloc (.cells #[] 28)).ownsRow wr.heap.size 28 2 (.slice (some ⟨wr.heap.size,0,none⟩) 0 0) 0 []:=World.ownsRow_made wr.drew #[] 0 (Nat.le_refl _) (Nat.zero_le _) (by simp)
   have hlow:Below wr.heap.size wr (wr.drew.alloc (.cells #[] 28)):=(below_drew (Below.refl _ _)).alloc (Nat.le_refl _) _
   have T4:=HT.out.later hlow
   obtain ⟨ca,fa,za⟩:=HT.out.a
   have hza:w.heap.size < wr.heap.size:=za
   clear hi fa za
   go_wp2_with fail
   go_region_held3 (fun W => ∀ o,W.cell? ⟨w.heap.size,o,none⟩=(#[.slice a0 l.length c0,.slice a1 g.length c1,.slice a2 h.length c2,.slice a3 qs.length c3]:Array Value)[o]?)
    (first | exact T2.a.1 | exact T4.a.1 | exact T5.a.1 | exact T6.a.1 | go_keep)
    (first
     | (refine step_row rfl _ _ 23 rfl wr.heap.size 28 inf _ 2 32 Tryz.underlying23 HINF.out hz0 hz1 hz2 (Nat.le_of_ble_eq_true rfl) rfl (Nat.le_of_ble_eq_true rfl) _ 0 [] rfl hown _ g.length _ rfl (HP.out.rg.below T4.low) (rls_one _) ?_ hlow.size ?_;omega;intro a5 c5 w5 hown5 hg5;have hb5:=below_own hlow hown hg5 hlow.size (Nat.le_refl _);have T5:=HT.out.later hb5;obtain ⟨n5,hn5⟩:∃ n5,n5=0+g.length:=⟨_,rfl⟩;rw [← hn5] at hown5 ⊢;have hn5m:n5≤30:=(by omega);have HN5:=Lib.hid hn5;clear hn5)
     | (refine step_row rfl _ _ 23 rfl wr.heap.size 28 inf _ 2 32 Tryz.underlying23 HINF.out hz0 hz1 hz2 (Nat.le_of_ble_eq_true rfl) rfl (Nat.le_of_ble_eq_true rfl) _ n5 _ rfl hown5 _ h.length _ rfl (HP.out.rh.below T5.low) (rls_one _) ?_ hb5.size ?_;omega;intro a6 c6 w6 hown6 hg6;have hb6:=below_own hb5 hown5 hg6 hb5.size (Nat.le_refl _);have T6:=HT.out.later hb6;obtain ⟨n6,hn6⟩:∃ n6,n6=n5+h.length:=⟨_,rfl⟩;rw [← hn6] at hown6 ⊢;have HN6:=Lib.hid hn6;clear hn6))
   have HS6:=Lib.hid (show Sl w6 2 (.slice a6 n6 c6) n6 ((g++h).flatMap Rl.cells) by have:=Sl.of_own hown6;rw [rl_flat];simpa using this)
   have HLe:=Lib.hid (show ∀ x∈g++h,x.le 9223372036854775807 from fun x hx=>by
    rcases List.mem_append.1 hx with hx | hx
    ·exact HP.out.lg x hx
    ·exact HP.out.lh x hx)
   have HN:=Lib.hid (show n6=(g++h).length by rw [HN6.out,HN5.out,List.length_append];omega)
   have HT6:=Lib.hid T6
   have hn6m:n6≤1000:=by have:=HN6.out;omega
   clear hn5m
   have HD:=Lib.hid (show RightP l g h qs F↔(∀ x∈g++h,isRole x=true)∧(∀ q∈qs,rightQ q (F q)=true)∧l=insAll [] l∧g=insAllR [] g∧h=insAllR [] h∧ff=true from HD.out.trans ⟨fun h=>h.2,fun h=>⟨HALL.out,h⟩⟩)
   generalize g++h=gh at HS6 HLe HN HD
   clear hown5 hown6 hg5 hg6 hb5 hb6 T2 T4 T5 T6 hlow hown ca hza HT HN6 HN5 hlt hk
   go_wp2_with fail
   go_loopw [28] (fun i wr => ∃ k:Nat,k≤n6∧i=.int .i64 k∧Hid (OneAt w #[.slice a0 l.length c0,.slice a1 g.length c1,.slice a2 h.length c2,.slice a3 qs.length c3] wr)∧Hid (Below w6.heap.size w6 wr)∧Hid (∀ j (hj:j < gh.length),j < k→isRole gh[j]=true)) (fun i _=>n6 - (intOf i).toNat)
   case atStart=>exact ⟨0,by omega,rfl,HT6,Lib.hid (Below.refl _ _),Lib.hid (fun _ _ h=>absurd h (by omega))⟩
   case round =>
    clear HT6
    obtain ⟨k,hk,rfl,HT,HB,HJ⟩:=hrel
    by_cases hlt:k < n6
    ·obtain ⟨b1,o1,e1,he1,hc1,hm1',hb1,hx1⟩:=HS6.out.pos (by omega)
     simp only [Value.slice.injEq,true_and] at he1
     obtain ⟨rfl,rfl⟩:=he1
     have hlt2:k < gh.length:=by have:=HN.out;omega
     obtain ⟨p0,p1⟩:=rl_cell (w:=wr) (fun j u hu=>(HB.out.cell (p:=⟨b1,o1+j,none⟩) hb1).trans (hx1 j u hu)) k hlt2
     have hbr:b1 < wr.heap.size:=Nat.lt_of_lt_of_le hb1 HB.out.size
     have IR:=Lib.hid (fun W=>ref3_IsRoleM gh[k] W (HLe.out _ (List.getElem_mem hlt2)))
     clear hx1
     have HJ2:Hid (isRole gh[k]=true→∀ j (hj:j < gh.length),j < k+1→isRole gh[j]=true):=Lib.hid (fun hpk j hj hjk=>by
      by_cases h:j < k
      ·exact HJ.out j hj h
      ·obtain rfl:j=k:=by omega
       exact hpk)
     have HN1:Hid (isRole gh[k]=false→¬ RightP l g h qs F):=Lib.hid (fun hf hr=>by rw [(HD.out.1 hr).1 _ (List.getElem_mem hlt2)] at hf;cases hf)
     generalize isRole gh[k]=ri at IR HJ2 HN1
     generalize gh[k]=x at *
     obtain ⟨x1,x2⟩:=x
     have HT2:=Lib.hid (HT.out.alloc (.cells #[.string x1,.string x2] 28))
     have HB2:=Lib.hid (HB.out.alloc HB.out.size (.cells #[.string x1,.string x2] 28))
     go_wp2_with fail
     refine (IR.out _).mono ?_
     rintro e w7 ⟨rfl,hb7⟩
     have HT3:=Lib.hid (HT2.out.later hb7)
     have HB3:=Lib.hid (HB2.out.trans (hb7.mono HB2.out.size))
     clear hb7
     cases ri with
     | false =>
      go_wp2
      go_ret
      exact ⟨rightI_no (HN1.out (by first | rfl | trivial)),HT3.out.low⟩
     | true =>
      have HJ3:=Lib.hid (HJ2.out (by first | rfl | trivial))
      go_wp2
      exact ⟨⟨k+1,by omega,by go_num,HT3,HB3,HJ3⟩,by simp [intOf];omega⟩
    ·obtain ⟨ca,fa,za⟩:=HT.out.a
     have HALL2:=Lib.hid (show ∀ x∈gh,isRole x=true from fun x hx=>by
      obtain ⟨j,hj,rfl⟩:=List.getElem_of_mem hx
      exact HJ.out j hj (by have:=HN.out;omega))
     have HD:=Lib.hid (show RightP l g h qs F↔(∀ q∈qs,rightQ q (F q)=true)∧l=insAll [] l∧g=insAllR [] g∧h=insAllR [] h∧ff=true from HD.out.trans ⟨fun h=>h.2,fun h=>⟨HALL2.out,h⟩⟩)
     clear HS6 HLe HN HB HJ HALL2
     go_wp2_with fail
     clear ca fa za
     go_loopw [39] (fun i wr => ∃ k:Nat,k≤qs.length∧i=.int .i64 k∧Hid (OneAt w #[.slice a0 l.length c0,.slice a1 g.length c1,.slice a2 h.length c2,.slice a3 qs.length c3] wr)∧Hid (∀ j (hj:j < qs.length),j < k→rightQ qs[j] (F qs[j])=true)) (fun i _=>qs.length - (intOf i).toNat)
     case atStart=>exact ⟨0,by omega,rfl,HT,Lib.hid (fun _ _ h=>absurd h (by omega))⟩
     case round =>
      clear HT
      obtain ⟨k,hk,rfl,HT,HJ⟩:=hrel
      by_cases hlt:k < qs.length
      ·obtain ⟨b1,o1,e1,he1,hc1,hm1',hb1,hx1⟩:=HP.out.rq.pos (by omega)
       simp only [Value.slice.injEq,true_and] at he1
       obtain ⟨rfl,rfl⟩:=he1
       obtain ⟨p0,p1,p2,p3,p4,p5⟩:=q_cell (w:=wr) (fun j u hu=>(HT.out.low.cell (p:=⟨b1,o1+j,none⟩) hb1).trans (hx1 j u hu)) k hlt
       have hbr:b1 < wr.heap.size:=Nat.lt_of_lt_of_le hb1 HT.out.low.size
       have hqo:=HP.out.lq _ (List.getElem_mem hlt)
       have QR:=Lib.hid (fun W hb=>RQ.out k hlt W hb)
       have HJ2:Hid (rightQ qs[k] (F qs[k])=true→∀ j (hj:j < qs.length),j < k+1→rightQ qs[j] (F qs[j])=true):=Lib.hid (fun hpk j hj hjk=>by
        by_cases h:j < k
        ·exact HJ.out j hj h
        ·obtain rfl:j=k:=by omega
         exact hpk)
       have HN1:Hid (rightQ qs[k] (F qs[k])=false→¬ RightP l g h qs F):=Lib.hid (fun hf hr=>by rw [(HD.out.1 hr).1 _ (List.getElem_mem hlt)] at hf;cases hf)
       generalize rightQ qs[k] (F qs[k])=rq at QR HJ2 HN1
       obtain ⟨wo,wc,hw5⟩:∃ a c,qs[k].w=.slice a ((hqo.2.2).choose).length c:=((hqo.2.2).choose_spec.1).form
       generalize (hqo.2.2).choose.length=nw at hw5
       clear hx1 hqo
       generalize qs[k]=x at *
       obtain ⟨xk,⟨x1,x2⟩,⟨x3,x4⟩,xw⟩:=x
       dsimp only at hw5
       subst hw5
       have HT1:=Lib.hid (HT.out.alloc (.cells #[.int .i64 xk,.string x1,.string x2,.string x3,.string x4,.slice wo nw wc] 50))
       go_wp2_with fail
       refine (QR.out _ HT1.out.low).mono ?_
       rintro e w7 ⟨rfl,hb7⟩
       have HT3:=Lib.hid (HT1.out.later hb7)
       clear hb7
       cases rq with
       | false =>
        go_wp2
        go_ret
        exact ⟨rightI_no (HN1.out (by first | rfl | trivial)),HT3.out.low⟩
       | true =>
        have HJ3:=Lib.hid (HJ2.out (by first | rfl | trivial))
        go_wp2
        exact ⟨⟨k+1,by omega,by go_num,HT3,HJ3⟩,by simp [intOf];omega⟩
      ·have M1:=Lib.hid (fun v W (hb:Below w.heap.size w W) (hv:Sl W 9 v (insAll [] l).length ((insAll [] l).flatMap St.cells))=>ref3_SameB (.slice a0 l.length c0) v l (insAll [] l) W (HP.out.rs.below hb) hv.a)
       have M2:=Lib.hid (fun v W (hb:Below w.heap.size w W) (hv:Sl W 2 v (insAllR [] g).length ((insAllR [] g).flatMap Rl.cells))=>ref3_SameRolesE (.slice a1 g.length c1) v g (insAllR [] g) W (HP.out.rg.below hb) hv.a)
       have M3:=Lib.hid (fun v W (hb:Below w.heap.size w W) (hv:Sl W 2 v (insAllR [] h).length ((insAllR [] h).flatMap Rl.cells))=>ref3_SameRolesE (.slice a2 h.length c2) v h (insAllR [] h) W (HP.out.rh.below hb) hv.a)
       have HALL3:=Lib.hid (show ∀ q∈qs,rightQ q (F q)=true from fun x hx=>by
        obtain ⟨j,hj,rfl⟩:=List.getElem_of_mem hx
        exact HJ.out j hj (by omega))
       have HD:=Lib.hid (show RightP l g h qs F↔decide (l=insAll [] l)=true∧decide (g=insAllR [] g)=true∧decide (h=insAllR [] h)=true∧ff=true from HD.out.trans ⟨fun h=>by simpa only [decide_eq_true_iff] using h.2,fun h=>⟨HALL3.out,by simpa only [decide_eq_true_iff] using h⟩⟩)
       clear HJ HALL3
       generalize decide (l=insAll [] l)=r1 at M1 HD
       generalize decide (g=insAllR [] g)=r2 at M2 HD
       generalize decide (h=insAllR [] h)=r3 at M3 HD
       have HT:=HT.out
       go_wp2_with fail
       refine wp_region_held_drew (S:=(fun W => ∀ o,W.cell? ⟨w.heap.size,o,none⟩=(#[.slice a0 l.length c0,.slice a1 g.length c1,.slice a2 h.length c2,.slice a3 qs.length c3]:Array Value)[o]?)) (by kernel_rfl) HT.drew.a.1 (fun hHeld=>?_)
       have HT:=HT.drew
       (refine hyes 0 ?_);(refine hyes 1 ?_);(refine hyes 2 ?_);(refine hyes 3 ?_);(try simp only [Act.put,List.setIfInBounds_toArray,List.set])
       (refine held_call 4 rfl (by kernel_rfl) (fun K hK=>?_);go_simp)
       go_at_call 63;refine (S3.out _ HT.low).mono ?_;rintro e wq ⟨y1,rfl,hy1,hbq⟩;have HT:=HT.later hbq;have cq:=HT.a.1;have HY1:=Lib.hid hy1
       (refine hK.out _ _ (HT.a.1) (fun hHeld=>?_);clear hK K;(try simp only [Act.put,List.setIfInBounds_toArray,List.set]))
       (refine held_call 5 rfl (by kernel_rfl) (fun K hK=>?_);go_simp)
       go_at_call 42;refine (M1.out _ _ HT.low HY1.out).mono ?_;rintro e wq ⟨rfl,hbq⟩;have HT:=HT.later hbq;have cq:=HT.a.1
       (refine hK.out _ _ (HT.a.1) (fun hHeld=>?_);clear hK K;(try simp only [Act.put,List.setIfInBounds_toArray,List.set]))
       (refine hyes 6 ?_);(try simp only [Act.put,List.setIfInBounds_toArray,List.set])
       cases r1 with
       | false =>
        (refine hno 7 ?_);(refine hno 8 ?_);(refine hno 9 ?_);(refine hno 10 ?_);(refine hno 11 ?_);(refine hno 12 ?_);(try simp only [Act.put,List.setIfInBounds_toArray,List.set])
        (refine hyes 13 ?_);(refine hyes 14 ?_);(try simp only [Act.put,List.setIfInBounds_toArray,List.set])
        (refine hno 15 ?_);(refine hno 16 ?_);(refine hno 17 ?_);(refine hno 18 ?_);(refine hno 19 ?_);(refine hno 20 ?_);(try simp only [Act.put,List.setIfInBounds_toArray,List.set])
        (refine hyes 21 ?_);(refine hyes 22 ?_);(try simp only [Act.put,List.setIfInBounds_toArray,List.set])
        (refine hno 23 ?_);(refine hno 24 ?_);(try simp only [Act.put,List.setIfInBounds_toArray,List.set])
        (refine hyes 25 ?_);(refine hyes 26 ?_);(try simp only [Act.put,List.setIfInBounds_toArray,List.set])
        refine wpAnyH_done (by kernel_rfl) ?_ _
        go_wp2
        go_ret
        exact ⟨rightI_no (fun hr=>by have:=HD.out.1 hr;simp at this),HT.low⟩
       | true =>
        (refine hyes 7 ?_);(refine hyes 8 ?_);(refine hyes 9 ?_);(refine hyes 10 ?_);(try simp only [Act.put,List.setIfInBounds_toArray,List.set])
        (refine held_call 11 rfl (by kernel_rfl) (fun K hK=>?_);go_simp)
        go_at_call 80;refine (SG.out _ HT.low).mono ?_;rintro e wq ⟨y2,rfl,hy2,hbq⟩;have HT:=HT.later hbq;have cq:=HT.a.1;have HY2:=Lib.hid hy2
        (refine hK.out _ _ (HT.a.1) (fun hHeld=>?_);clear hK K;(try simp only [Act.put,List.setIfInBounds_toArray,List.set]))
        (refine held_call 12 rfl (by kernel_rfl) (fun K hK=>?_);go_simp)
        go_at_call 79;refine (M2.out _ _ HT.low HY2.out).mono ?_;rintro e wq ⟨rfl,hbq⟩;have HT:=HT.later hbq;have cq:=HT.a.1
        (refine hK.out _ _ (HT.a.1) (fun hHeld=>?_);clear hK K;(try simp only [Act.put,List.setIfInBounds_toArray,List.set]))
        (refine hyes 13 ?_);(refine hyes 14 ?_);(try simp only [Act.put,List.setIfInBounds_toArray,List.set])
        cases r2 with
        | false =>
         (refine hno 15 ?_);(refine hno 16 ?_);(refine hno 17 ?_);(refine hno 18 ?_);(refine hno 19 ?_);(refine hno 20 ?_);(try simp only [Act.put,List.setIfInBounds_toArray,List.set])
         (refine hyes 21 ?_);(refine hyes 22 ?_);(try simp only [Act.put,List.setIfInBounds_toArray,List.set])
         (refine hno 23 ?_);(refine hno 24 ?_);(try simp only [Act.put,List.setIfInBounds_toArray,List.set])
         (refine hyes 25 ?_);(refine hyes 26 ?_);(try simp only [Act.put,List.setIfInBounds_toArray,List.set])
         refine wpAnyH_done (by kernel_rfl) ?_ _
         go_wp2
         go_ret
         exact ⟨rightI_no (fun hr=>by have:=HD.out.1 hr;simp at this),HT.low⟩
        | true =>
         (refine hyes 15 ?_);(refine hyes 16 ?_);(refine hyes 17 ?_);(refine hyes 18 ?_);(try simp only [Act.put,List.setIfInBounds_toArray,List.set])
         (refine held_call 19 rfl (by kernel_rfl) (fun K hK=>?_);go_simp)
         go_at_call 80;refine (SH.out _ HT.low).mono ?_;rintro e wq ⟨y3,rfl,hy3,hbq⟩;have HT:=HT.later hbq;have cq:=HT.a.1;have HY3:=Lib.hid hy3
         (refine hK.out _ _ (HT.a.1) (fun hHeld=>?_);clear hK K;(try simp only [Act.put,List.setIfInBounds_toArray,List.set]))
         (refine held_call 20 rfl (by kernel_rfl) (fun K hK=>?_);go_simp)
         go_at_call 79;refine (M3.out _ _ HT.low HY3.out).mono ?_;rintro e wq ⟨rfl,hbq⟩;have HT:=HT.later hbq;have cq:=HT.a.1
         (refine hK.out _ _ (HT.a.1) (fun hHeld=>?_);clear hK K;(try simp only [Act.put,List.setIfInBounds_toArray,List.set]))
         (refine hyes 21 ?_);(refine hyes 22 ?_);(try simp only [Act.put,List.setIfInBounds_toArray,List.set])
         cases r3 with
         | false =>
          (refine hno 23 ?_);(refine hno 24 ?_);(try simp only [Act.put,List.setIfInBounds_toArray,List.set])
          (refine hyes 25 ?_);(refine hyes 26 ?_);(try simp only [Act.put,List.setIfInBounds_toArray,List.set])
          refine wpAnyH_done (by kernel_rfl) ?_ _
          go_wp2
          go_ret
          exact ⟨rightI_no (fun hr=>by have:=HD.out.1 hr;simp at this),HT.low⟩
         | true =>
          (refine hyes 23 ?_);(try simp only [Act.put,List.setIfInBounds_toArray,List.set])
          (refine held_call 24 rfl (by kernel_rfl) (fun K hK=>?_);go_simp)
          go_at_call 81;refine (FI.out _ HT.low).mono ?_;rintro e wq ⟨rfl,hbq⟩;have HT:=HT.later hbq;have cq:=HT.a.1
          (refine hK.out _ _ (HT.a.1) (fun hHeld=>?_);clear hK K;(try simp only [Act.put,List.setIfInBounds_toArray,List.set]))
          (refine hyes 25 ?_);(refine hyes 26 ?_);(try simp only [Act.put,List.setIfInBounds_toArray,List.set])
          refine wpAnyH_done (by kernel_rfl) ?_ _
          go_wp2
          go_ret
          exact ⟨⟨ff,rfl,⟨fun hff=>HD.out.2 ⟨(by first | rfl | trivial),(by first | rfl | trivial),(by first | rfl | trivial),hff⟩,fun hr=>(HD.out.1 hr).2.2.2⟩⟩,HT.low⟩
end
end Go.Proofs.YtilgbodgmkmjjaaGreatDoor
