/- Parts: PolLight2 StrRows IdxFuncs StrLaw TabLaw StrSort TabNew TabFns TabFind RegSkip TabTbl SetFar TabAtR RuleEq TwoAt -/
import Derived.Test.YtilgbodgmkmjjaaGreatDoorPart5
import Derived.Test.YtilgbodgmkmjjaaGreatDoorPart3
import Derived.Lib.SlicesCompact
import Derived.Lib.RowBridge
import Derived.Sort.Walk0
import Derived.Sort.EncStr
import Derived.Test.YtilgbodgmkmjjaaGreatDoorShelfP
import Derived.Sort.OwnSorted
import Derived.Sort.Grow
import Derived.Lib.OwnBridge
import Derived.Deep.RegionHeld3
import Derived.Test.YtilgbodgmkmjjaaGreatDoorPart2
namespace Go.Proofs.YtilgbodgmkmjjaaGreatDoor
section
open Go.RowKit Go.Shelf

structure PolAt (w:World) (v0 v1 v2 v3:Value) (l:List St) (g h:List Rl) (qs:List Qv):Prop where
 rs:SlA w 9 v0 l.length (l.flatMap St.cells)
 rg:SlA w 2 v1 g.length (g.flatMap Rl.cells)
 rh:SlA w 2 v2 h.length (h.flatMap Rl.cells)
 rq:SlA w 6 v3 qs.length (qs.flatMap Qv.cells)
 ls:allLe l 9223372036854775807
 lg:∀ x∈g,x.le 9223372036854775807
 lh:∀ x∈h,x.le 9223372036854775807
 lq:∀ x∈qs,x.ok w
theorem PolAt.below {w w':World} {v0 v1 v2 v3:Value} {l:List St} {g h:List Rl} {qs:List Qv} (p:PolAt w v0 v1 v2 v3 l g h qs) (hb:Below w.heap.size w w'):PolAt w' v0 v1 v2 v3 l g h qs :=
 ⟨p.rs.below hb,p.rg.below hb,p.rh.below hb,p.rq.below hb,p.ls,p.lg,p.lh,fun x hx=>(p.lq x hx).below hb⟩
theorem rls_one (l:List Rl):∀ u∈l.flatMap Rl.cells,u.oneCell'=true:=by
 intro u hu
 obtain ⟨x,_,hx⟩:=List.mem_flatMap.1 hu
 simp only [Rl.cells,List.mem_cons,List.not_mem_nil,or_false] at hx
 rcases hx with rfl | rfl <;> rfl
theorem rl_flat (l m:List Rl):(l++m).flatMap Rl.cells=l.flatMap Rl.cells++m.flatMap Rl.cells:=by simp

theorem rl_info':(Tryz.prog.info? 28).map (fun i=>(i.zero,i.size,i.bytes))=some (some (.agg #[.string ByteArray.empty,.string ByteArray.empty]),2,32):=by kernel_rfl
theorem step_row {P:Program} {w:World} {ops:Array Oper} {o:Oper} {a:Act} {K:Act→World→Prop} {Q:Exit→Act→World→Prop} {E:Prop} (hgd:o.guard=none) (s x:Operand) (t:TypeId)
  (ho:o.op=.call { callee:=.builtin .append,args:=#[s,x],argTypes:=#[t,t] })
  (base:Nat) (e:TypeId) (i:TypeInfo) (z:Value) (size bytes:Nat) (ht:P.underlying t=some (.slice e)) (hi:P.info? e=some i) (hz:i.zero=some z)
  (hsize:i.size=size) (hby:i.bytes=bytes) (hb1000:bytes≤1000) (hzs:z.cells.size=size) (hsz:0 < size)
  (v:Value) (n:Nat) (xs:List Value) (hs:a.eval s=v) (hown:w.ownsRow base e size v n xs)
  (va:Value) (m:Nat) (ys:List Value) (hx:a.eval x=va) (ha:SlA w size va m ys) (h1:∀ u∈ys,u.oneCell'=true)
  (hnm:n+m≤100000000000) (hbase:base≤w.heap.size)
  (h:∀ a' cap' w',w'.ownsRow base e size (.slice a' (n+m) cap') (n+m) (xs++ys)→w.grownBy w' v.ownBlock→K (a.put o.dst (.slice a' (n+m) cap')) w') :
  if Region.wanted o (yielded ops a.tmps)=true then Oper.wp P o a w K Q else E:=by
 by_cases h0:0 < m
 ·obtain ⟨b,off,c,rfl,hc,hm,hb,hcell⟩:=ha.pos h0
  have hl:ys.length=m * size:=by
   rcases ha with ha | ⟨_,rfl,rfl⟩
   ·exact ha.len
   ·simp
  have hbb:(n+m) * bytes≤140737488355328:=Nat.le_trans (Nat.mul_le_mul (Nat.le_refl _) hb1000) (by omega)
  exact step_append_lies w hgd s x t ho base e i z size bytes ht hi hz hsize hby hzs hsz v n xs hs hown ⟨b,off,none⟩ m c ys hx hl (fun j u hu=>by rw [addr_add];exact hcell j u hu) h1 h0 (by simp only [maxLen];omega) hbb hbase _ rfl
   (fun g cap w' h1 h2 _ _=>h _ cap w' h1 h2)
 ·obtain rfl:m=0:=by omega
  have hy:ys=[]:=by
   rcases ha with ha | ⟨_,_,rfl⟩
   ·have:=ha.len;exact List.eq_nil_of_length_eq_zero (by omega)
   ·rfl
  subst hy
  obtain ⟨ax,cx,rfl⟩:=ha.form
  obtain ⟨ao,cap,rfl,hnc⟩:=own_form2 hown
  refine step_zero w hgd s x t ho e i ht hi ao n cap hnc hs ax cx hx ?_
  exact h ao cap w (by rw [List.append_nil];exact hown) ⟨rfl,rfl,rfl,Nat.le_refl _,fun _ _ _=>rfl⟩

theorem okN_back {q:Qv} {n:Nat} {w W:World} (h:q.ok w) (_:Below w.heap.size w W) (h':q.okN n W):q.okN n w:=by
 obtain ⟨h1,h2,ss,h3,h4⟩:=h
 obtain ⟨_,_,ss',h3',h5,_⟩:=h'
 refine ⟨h1,h2,ss,h3,?_,h4⟩
 obtain ⟨a,c,e⟩:=h3.form
 obtain ⟨a',c',e'⟩:=h3'.form
 rw [e] at e'
 simp only [Value.slice.injEq] at e'
 omega
def LightR (w:World) (l:List St) (g h:List Rl) (qs:List Qv) (e:Ending):Prop:=∃ b,e=.returned (.bool b)∧(b=true→(l.length≤30∧g.length≤30∧h.length≤30∧qs.length≤30∧allLe l 40∧∀ q∈qs,q.okN 40 w)∧∀ x∈g++h,x.le 40)
set_option maxRecDepth 100000 in
set_option maxHeartbeats 8000000 in
theorem law5_LightR (v0 v1 v2 v3:Value) (l:List St) (g h:List Rl) (qs:List Qv) (w:World) (hp:PolAt w v0 v1 v2 v3 l g h qs) :
  Calls Tryz.prog 11 #[pv v0 v1 v2 v3] w fun e w'=>LightR w l g h qs e∧Below w.heap.size w w':=by
 have HP:=Lib.hid hp
 have hm0:=hp.rs.max
 have hm1:=hp.rg.max
 have hm2:=hp.rh.max
 have hm3:=hp.rq.max
 obtain ⟨a0,c0,rfl⟩:=hp.rs.form
 obtain ⟨a1,c1,rfl⟩:=hp.rg.form
 obtain ⟨a2,c2,rfl⟩:=hp.rh.form
 obtain ⟨a3,c3,rfl⟩:=hp.rq.form
 have HL:=Lib.hid (fun k (hk:k < l.length) W=>law3_Light l[k] W (hp.ls _ (List.getElem_mem hk)))
 have T0:=Lib.hid (show OneAt w #[.slice a0 l.length c0,.slice a1 g.length c1,.slice a2 h.length c2,.slice a3 qs.length c3] (w.alloc (.cells #[.slice a0 l.length c0,.slice a1 g.length c1,.slice a2 h.length c2,.slice a3 qs.length c3] 26)) from ⟨Blk.new w _ _,(Below.refl _ _).alloc (Nat.le_refl _) _⟩)
 clear hp
 go_enter Tryz.func11,Tryz.ntmps11
 by_cases t0:30 < l.length
 ·have d0:decide ((30:Int) < (l.length:Int))=true:=by (rw [decide_eq_true_iff];omega)
  go_wp2
  go_ret
  exact ⟨⟨false,rfl,(fun h=>by cases h)⟩,T0.out.low⟩
 have d0:decide ((30:Int) < (l.length:Int))=false:=by (rw [decide_eq_false_iff_not];omega)
 by_cases t1:30 < g.length
 ·have d1:decide ((30:Int) < (g.length:Int))=true:=by (rw [decide_eq_true_iff];omega)
  go_wp2
  go_ret
  exact ⟨⟨false,rfl,(fun h=>by cases h)⟩,T0.out.low⟩
 have d1:decide ((30:Int) < (g.length:Int))=false:=by (rw [decide_eq_false_iff_not];omega)
 by_cases t2:30 < h.length
 ·have d2:decide ((30:Int) < (h.length:Int))=true:=by (rw [decide_eq_true_iff];omega)
  go_wp2
  go_ret
  exact ⟨⟨false,rfl,(fun h=>by cases h)⟩,T0.out.low⟩
 have d2:decide ((30:Int) < (h.length:Int))=false:=by (rw [decide_eq_false_iff_not];omega)
 by_cases t3:30 < qs.length
 ·have d3:decide ((30:Int) < (qs.length:Int))=true:=by (rw [decide_eq_true_iff];omega)
  go_wp2
  go_ret
  exact ⟨⟨false,rfl,(fun h=>by cases h)⟩,T0.out.low⟩
 have d3:decide ((30:Int) < (qs.length:Int))=false:=by (rw [decide_eq_false_iff_not];omega)
 go_wp2_with fail
 clear d0 d1 d2 d3
 go_loopw [34] (fun i wr => ∃ k:Nat,k≤l.length∧i=.int .i64 k∧Hid (OneAt w #[.slice a0 l.length c0,.slice a1 g.length c1,.slice a2 h.length c2,.slice a3 qs.length c3] wr)∧Hid (∀ j (hj:j < l.length),j < k→l[j].le 40)) (fun i _=>l.length - (intOf i).toNat)
 case atStart=>exact ⟨0,by omega,rfl,T0,Lib.hid (fun _ _ h=>absurd h (by omega))⟩
 case round =>
  obtain ⟨k,hk,rfl,TR,HJ⟩:=hrel
  by_cases hlt:k < l.length
  ·obtain ⟨b1,o1,e1,he1,hc1,hm1',hb1,hx1⟩:=HP.out.rs.pos (by omega)
   simp only [Value.slice.injEq,true_and] at he1
   obtain ⟨rfl,rfl⟩:=he1
   obtain ⟨p0,p1,p2,p3,p4,p5,p6,p7,p8⟩:=st_cell (w:=wr) (fun j u hu=>(TR.out.low.cell (p:=⟨b1,o1+j,none⟩) hb1).trans (hx1 j u hu)) k hlt
   have hbr:b1 < wr.heap.size:=Nat.lt_of_lt_of_le hb1 TR.out.low.size
   have HLk:=Lib.hid (fun W=>HL.out k hlt W)
   clear hx1
   go_wp2_with fail
   refine (HLk.out _).mono ?_
   rintro e w2 ⟨b,rfl,hle,hb2⟩
   have HLE:=Lib.hid hle
   have T2:=Lib.hid ((TR.out.alloc _).later hb2)
   clear hle hb2
   cases b with
   | false =>
    go_wp2
    go_ret
    exact ⟨⟨false,rfl,(fun h=>by cases h)⟩,T2.out.low⟩
   | true =>
    have HJ2:Hid (∀ j (hj:j < l.length),j < k+1→l[j].le 40):=Lib.hid (fun j hj hjk=>by
     by_cases h:j < k
     ·exact HJ.out j hj h
     ·obtain rfl:j=k:=by omega
      exact HLE.out (by first | rfl | trivial))
    go_wp2
    exact ⟨⟨k+1,by omega,by go_num,T2,HJ2⟩,by simp [intOf];omega⟩
  ·have HJ3:=Lib.hid (show allLe l 40 from fun x hx=>by
    obtain ⟨j,hj,rfl⟩:=List.getElem_of_mem hx
    exact HJ.out j hj (by omega))
   obtain ⟨ca,fa,za⟩:=TR.out.a
   clear HJ HL
   go_wp2_with fail
   go_loopw [45] (fun i wr => ∃ k:Nat,k≤qs.length∧i=.int .i64 k∧Hid (OneAt w #[.slice a0 l.length c0,.slice a1 g.length c1,.slice a2 h.length c2,.slice a3 qs.length c3] wr)∧Hid (∀ j (hj:j < qs.length),j < k→qs[j].okN 40 w)) (fun i _=>qs.length - (intOf i).toNat)
   case atStart=>exact ⟨0,by omega,rfl,TR,Lib.hid (fun _ _ h=>absurd h (by omega))⟩
   case round =>
    clear TR ca fa za
    obtain ⟨k,hk,rfl,TR,HQJ⟩:=hrel
    by_cases hlt:k < qs.length
    ·obtain ⟨b1,o1,e1,he1,hc1,hm1',hb1,hx1⟩:=HP.out.rq.pos (by omega)
     simp only [Value.slice.injEq,true_and] at he1
     obtain ⟨rfl,rfl⟩:=he1
     obtain ⟨p0,p1,p2,p3,p4,p5⟩:=q_cell (w:=wr) (fun j u hu=>(TR.out.low.cell (p:=⟨b1,o1+j,none⟩) hb1).trans (hx1 j u hu)) k hlt
     have hbr:b1 < wr.heap.size:=Nat.lt_of_lt_of_le hb1 TR.out.low.size
     have hqo:=HP.out.lq _ (List.getElem_mem hlt)
     have QL:=Lib.hid (fun W (hb:Below w.heap.size w W)=>law4_Light qs[k] W (hqo.below hb))
     have QB:=Lib.hid (fun (W:World) (hb:Below w.heap.size w W) (h:qs[k].okN 40 W)=>okN_back hqo hb h)
     have HQ2:Hid (qs[k].okN 40 w→∀ j (hj:j < qs.length),j < k+1→qs[j].okN 40 w):=Lib.hid (fun hpk j hj hjk=>by
      by_cases h:j < k
      ·exact HQJ.out j hj h
      ·obtain rfl:j=k:=by omega
       exact hpk)
     obtain ⟨wo,wc,hw5⟩:∃ a c,qs[k].w=.slice a ((hqo.2.2).choose).length c:=((hqo.2.2).choose_spec.1).form
     generalize (hqo.2.2).choose.length=nw at hw5
     have hek:qs[k]=⟨qs[k].k,⟨qs[k].a.o,qs[k].a.n⟩,⟨qs[k].b.o,qs[k].b.n⟩,qs[k].w⟩:=rfl
     clear hx1 hqo
     generalize qs[k]=x at *
     obtain ⟨xk,⟨x1,x2⟩,⟨x3,x4⟩,xw⟩:=x
     dsimp only at hw5
     subst hw5
     clear hek
     have T2:=Lib.hid (TR.out.alloc (.cells #[.int .i64 xk,.string x1,.string x2,.string x3,.string x4,.slice wo nw wc] 50))
     go_wp2_with fail
     refine (QL.out _ T2.out.low).mono ?_
     rintro e w2 ⟨⟨b,rfl,hbq⟩,hb2⟩
     have T3:=Lib.hid (T2.out.later hb2)
     have HBQ:=Lib.hid (fun h=>HQ2.out (QB.out _ T2.out.low (hbq h)))
     clear hb2 hbq
     cases b with
     | false =>
      go_wp2
      go_ret
      exact ⟨⟨false,rfl,(fun h=>by cases h)⟩,T3.out.low⟩
     | true =>
      go_wp2
      exact ⟨⟨k+1,by omega,by go_num,T3,Lib.hid (HBQ.out (by first | rfl | trivial))⟩,by simp [intOf];omega⟩
    ·have HQA:=Lib.hid (show ∀ q∈qs,q.okN 40 w from fun q hq=>by
      obtain ⟨j,hj,rfl⟩:=List.getElem_of_mem hq
      exact HQJ.out j hj (by omega))
     obtain ⟨inf,hi,hz0,hz1,hz2⟩:=info_parts rl_info'
     have HINF:=Lib.hid hi
     have T2:=TR.out.drew
     have hown:(wr.drew.alloc (.cells #[] 28)).ownsRow wr.heap.size 28 2 (.slice (some ⟨wr.heap.size,0,none⟩) 0 0) 0 []:=World.ownsRow_made wr.drew #[] 0 (Nat.le_refl _) (Nat.zero_le _) (by simp)
     have hlow:Below wr.heap.size wr (wr.drew.alloc (.cells #[] 28)):=(below_drew (Below.refl _ _)).alloc (Nat.le_refl _) _
     have T4:=TR.out.later hlow
     obtain ⟨ca,fa,za⟩:=TR.out.a
     have hza:w.heap.size < wr.heap.size:=za
     clear hi fa za
     go_wp2_with fail
     go_region_held3 (fun W => ∀ o,W.cell? ⟨w.heap.size,o,none⟩=(#[.slice a0 l.length c0,.slice a1 g.length c1,.slice a2 h.length c2,.slice a3 qs.length c3]:Array Value)[o]?)
      (first | exact T2.a.1 | exact T4.a.1 | exact T5.a.1 | exact T6.a.1 | go_keep)
      (first
       | (refine step_row rfl _ _ 23 rfl wr.heap.size 28 inf _ 2 32 Tryz.underlying23 HINF.out hz0 hz1 hz2 (Nat.le_of_ble_eq_true rfl) rfl (Nat.le_of_ble_eq_true rfl) _ 0 [] rfl hown _ g.length _ rfl (HP.out.rg.below T4.low) (rls_one _) ?_ hlow.size ?_;omega;intro a5 c5 w5 hown5 hg5;have hb5:=below_own hlow hown hg5 hlow.size (Nat.le_refl _);have T5:=TR.out.later hb5)
       | (refine step_row rfl _ _ 23 rfl wr.heap.size 28 inf _ 2 32 Tryz.underlying23 HINF.out hz0 hz1 hz2 (Nat.le_of_ble_eq_true rfl) rfl (Nat.le_of_ble_eq_true rfl) _ (0+g.length) _ rfl hown5 _ h.length _ rfl (HP.out.rh.below T5.low) (rls_one _) ?_ hb5.size ?_;omega;intro a6 c6 w6 hown6 hg6;have hb6:=below_own hb5 hown5 hg6 hb5.size (Nat.le_refl _);have T6:=TR.out.later hb6;obtain ⟨n6,hn6⟩:∃ n6,n6=0+g.length+h.length:=⟨_,rfl⟩;rw [← hn6] at hown6 ⊢;have HN6:=Lib.hid hn6;clear hn6))
     have HS6:=Lib.hid (show Sl w6 2 (.slice a6 n6 c6) n6 ((g++h).flatMap Rl.cells) by have:=Sl.of_own hown6;rw [rl_flat];simpa using this)
     have HLe:=Lib.hid (show ∀ x∈g++h,x.le 9223372036854775807 from fun x hx=>by
      rcases List.mem_append.1 hx with hx | hx
      ·exact HP.out.lg x hx
      ·exact HP.out.lh x hx)
     have HN:=Lib.hid (show n6=(g++h).length by rw [HN6.out,List.length_append];omega)
     have HB6:=Lib.hid T6.low
     have hn6m:n6≤1000:=by have:=HN6.out;omega
     have HGH:∃ gh,Hid (g++h=gh):=⟨_,Lib.hid rfl⟩
     obtain ⟨gh,HGH⟩:=HGH
     rw [HGH.out] at HS6 HLe HN
     clear hown5 hown6 hg5 hg6 hb5 hb6 T2 T4 T5 T6 hlow hown ca hza TR HN6
     go_wp2_with fail
     go_loopw [61] (fun i wr => ∃ k:Nat,k≤n6∧i=.int .i64 k∧Hid (Below w6.heap.size w6 wr)∧Hid (∀ j (hj:j < gh.length),j < k→gh[j].le 40)) (fun i _=>n6 - (intOf i).toNat)
     case atStart=>exact ⟨0,by omega,rfl,Lib.hid (Below.refl _ _),Lib.hid (fun _ _ h=>absurd h (by omega))⟩
     case round =>
      obtain ⟨k,hk,rfl,HB,HRJ⟩:=hrel
      by_cases hlt:k < n6
      ·obtain ⟨b1,o1,e1,he1,hc1,hm1',hb1,hx1⟩:=HS6.out.pos (by omega)
       simp only [Value.slice.injEq,true_and] at he1
       obtain ⟨rfl,rfl⟩:=he1
       have hlt2:k < gh.length:=by have:=HN.out;omega
       obtain ⟨p0,p1⟩:=rl_cell (w:=wr) (fun j u hu=>(HB.out.cell (p:=⟨b1,o1+j,none⟩) hb1).trans (hx1 j u hu)) k hlt2
       have hbr:b1 < wr.heap.size:=Nat.lt_of_lt_of_le hb1 HB.out.size
       have hle:=HLe.out _ (List.getElem_mem hlt2)
       have HR2:Hid (gh[k].le 40→∀ j (hj:j < gh.length),j < k+1→gh[j].le 40):=Lib.hid (fun hpk j hj hjk=>by
        by_cases h:j < k
        ·exact HRJ.out j hj h
        ·obtain rfl:j=k:=by omega
         exact hpk)
       clear hx1
       generalize gh[k]=x at *
       obtain ⟨x1,x2⟩:=x
       have hz1':x1.size≤9223372036854775807:=hle.1
       have hz2':x2.size≤9223372036854775807:=hle.2
       have HB2:=Lib.hid (HB.out.alloc HB.out.size (.cells #[.string x1,.string x2] 28))
       clear hle
       by_cases q1:40 < x1.size
       ·have d1:decide ((40:Int) < (x1.size:Int))=true:=by (rw [decide_eq_true_iff];omega)
        clear q1
        go_wp2
        go_ret
        exact ⟨⟨false,rfl,(fun h=>by cases h)⟩,HB6.out.trans (HB2.out.mono HB6.out.size)⟩
       have d1:decide ((40:Int) < (x1.size:Int))=false:=by (rw [decide_eq_false_iff_not];omega)
       have Q1:=Lib.hid q1
       clear q1
       by_cases q2:40 < x2.size
       ·have d2:decide ((40:Int) < (x2.size:Int))=true:=by (rw [decide_eq_true_iff];omega)
        clear q2
        go_wp2
        go_ret
        exact ⟨⟨false,rfl,(fun h=>by cases h)⟩,HB6.out.trans (HB2.out.mono HB6.out.size)⟩
       have d2:decide ((40:Int) < (x2.size:Int))=false:=by (rw [decide_eq_false_iff_not];omega)
       have HR3:=Lib.hid (HR2.out ⟨by have:=Q1.out;show x1.size≤40;omega,by show x2.size≤40;omega⟩)
       clear q2
       go_wp2
       exact ⟨⟨k+1,by omega,by go_num,HB2,HR3⟩,by simp [intOf];omega⟩
      ·have HR4:Hid (∀ x∈g++h,x.le 40):=Lib.hid (by
        rw [HGH.out]
        intro x hx
        obtain ⟨j,hj,rfl⟩:=List.getElem_of_mem hx
        exact HRJ.out j hj (by have:=HN.out;omega))
       go_wp2
       go_ret
       exact ⟨⟨true,rfl,(fun _=>⟨⟨by omega,by omega,by omega,by omega,HJ3.out,HQA.out⟩,HR4.out⟩)⟩,HB6.out.trans (HB.out.mono HB6.out.size)⟩
end
section
open Go.RowKit Go.Shelf

theorem strs_app (l m:List ByteArray):strs (l++m)=strs l++strs m:=by simp [strs]
theorem strs_one (l:List ByteArray):∀ u∈strs l,u.oneCell'=true:=by
 intro u hu
 obtain ⟨s,_,rfl⟩:=List.mem_map.1 hu
 rfl
theorem str1 (s:ByteArray):∀ u∈[Value.string s],u.oneCell'=true:=fun u hu=>by rw [List.mem_singleton.1 hu];rfl
theorem own_push {wA wr w3:World} {vo:Value} {ss:List ByteArray} {x:ByteArray} {o:Obj} {a':Option Addr} {cap':Nat} (hb:Below wA.heap.size wA wr) (hown:wr.ownsRow wA.heap.size 9 1 vo ss.length (strs ss))
  (h:w3.ownsRow wA.heap.size 9 1 (.slice a' (ss.length+1) cap') (ss.length+1) (strs ss++[.string x])) (hg:(wr.alloc o).grownBy w3 vo.ownBlock) :
  w3.ownsRow wA.heap.size 9 1 (.slice a' (ss.length+1) cap') (ss++[x]).length (strs (ss++[x]))∧Below wA.heap.size wA w3:=by
 refine ⟨by rw [List.length_append,strs_app];exact h,?_⟩
 exact below_own (hb.alloc hb.size o) (hown.alloc _) hg (by have:=hb.size;simp;omega) (Nat.le_refl _)
theorem str_info:(Tryz.prog.info? 9).map (fun i=>(i.zero,i.size,i.bytes))=some (some (.string ByteArray.empty),1,16):=by kernel_rfl
end
section
open Go.RowKit Go.Shelf

set_option maxRecDepth 100000 in
set_option maxHeartbeats 2000000 in
theorem q_IndexFunc (va:Value) (l:List Qv) (w:World) (ha:SlA w 6 va l.length (l.flatMap Qv.cells)) (g:Nat) (cb:Array Value) (p:Qv→Bool)
  (eg:∀ args w,(callFunc g args).run Tryz.prog w=.ok (.enter g args) w)
  (hp:∀ x W,x∈l→Below w.heap.size w W→Calls Tryz.prog g (#[qv x]++cb) W fun e w'=>e=.returned (.bool (p x))∧Below W.heap.size W w') :
  Calls Tryz.prog 227 #[va,.func (.func g) #[] cb] w fun e w'=>(∃ i:Int,e=.returned (.int .i64 i)∧l.any p=decide (0≤i))∧Below w.heap.size w w':=by
 have HP:=Lib.hid hp
 have HA:=Lib.hid ha
 have hmax:=ha.max
 obtain ⟨ao,cap,hva⟩:=ha.form
 subst hva
 clear ha hp
 have HY:=Lib.hid (fun k (hk:k < l.length) (h:p l[k]=true)=>show l.any p=true from List.any_eq_true.2 ⟨l[k],List.getElem_mem hk,h⟩)
 have HN:=Lib.hid (fun (h:∀ j (hj:j < l.length),p l[j]=false)=>show l.any p=false by
  rw [List.any_eq_false]
  intro x hx
  obtain ⟨j,hj,rfl⟩:=List.getElem_of_mem hx
  rw [h j hj];exact Bool.false_ne_true)
 generalize l.any p=res at HY HN ⊢
 go_enter Tryz.func227,Tryz.ntmps227
 go_wp2
 go_loopw [8] (fun i wr => ∃ k:Nat,k≤l.length∧i=.int .i64 k∧Hid (Below w.heap.size w wr)∧Hid (∀ j (hj:j < l.length),j < k→p l[j]=false)) (fun i _=>l.length - (intOf i).toNat)
 case atStart=>exact ⟨0,by omega,rfl,Lib.hid (Below.refl _ _),Lib.hid (fun _ _ h=>absurd h (by omega))⟩
 case round =>
  obtain ⟨k,hk,rfl,HB,HJ⟩:=hrel
  by_cases hlt:k < l.length
  ·obtain ⟨b1,o1,c1,he1,hc1,hm1,hb1,hx1⟩:=HA.out.pos (by omega)
   simp only [Value.slice.injEq,true_and] at he1
   obtain ⟨rfl,rfl⟩:=he1
   obtain ⟨p0,p1,p2,p3,p4,p5⟩:=q_cell (w:=wr) (fun j u hu=>(HB.out.cell (p:=⟨b1,o1+j,none⟩) hb1).trans (hx1 j u hu)) k hlt
   have hbr:b1 < wr.heap.size:=Nat.lt_of_lt_of_le hb1 HB.out.size
   have PC:=Lib.hid (fun W h=>HP.out l[k] W (List.getElem_mem hlt) h)
   have YES:=Lib.hid (HY.out k hlt)
   have HJ2:Hid (p l[k]=false→∀ j (hj:j < l.length),j < k+1→p l[j]=false):=Lib.hid (fun hpk j hj hjk=>by
    by_cases h:j < k
    ·exact HJ.out j hj h
    ·obtain rfl:j=k:=by omega
     exact hpk)
   clear hx1
   generalize p l[k]=px at PC YES HJ2
   generalize l[k]=x at *
   obtain ⟨xk,⟨x1,x2⟩,⟨x3,x4⟩,xw⟩:=x
   go_wp2_with fail
   refine (PC.out _ HB.out).mono ?_
   rintro e w2 ⟨rfl,hb2⟩
   have HB2:=Lib.hid (HB.out.trans (hb2.mono HB.out.size))
   clear hb2
   cases px with
   | true =>
    have R:=Lib.hid (YES.out rfl)
    go_wp2
    go_ret
    exact ⟨⟨(k:Int),rfl,by rw [R.out,decide_eq_true (Int.natCast_nonneg k)]⟩,HB2.out⟩
   | false =>
    have HJ3:=Lib.hid (HJ2.out rfl)
    go_wp2
    exact ⟨⟨k+1,by omega,by go_num,HB2,HJ3⟩,by simp [intOf];omega⟩
  ·have R:=Lib.hid (HN.out (fun j hj=>HJ.out j hj (by omega)))
   go_wp2
   go_ret
   exact ⟨⟨-1,rfl,by rw [R.out];rfl⟩,HB.out⟩
set_option maxHeartbeats 1000000 in
theorem q_ContainsFunc (va:Value) (l:List Qv) (w:World) (ha:SlA w 6 va l.length (l.flatMap Qv.cells)) (g:Nat) (cb:Array Value) (p:Qv→Bool)
  (eg:∀ args w,(callFunc g args).run Tryz.prog w=.ok (.enter g args) w)
  (hp:∀ x W,x∈l→Below w.heap.size w W→Calls Tryz.prog g (#[qv x]++cb) W fun e w'=>e=.returned (.bool (p x))∧Below W.heap.size W w') :
  Calls Tryz.prog 153 #[va,.func (.func g) #[] cb] w fun e w'=>e=.returned (.bool (l.any p))∧Below w.heap.size w w':=by
 have I:=Lib.hid (q_IndexFunc va l w ha g cb p eg hp)
 generalize l.any p=res at I ⊢
 clear ha hp eg
 go_enter Tryz.func153,Tryz.ntmps153
 go_wp2_with fail
 refine I.out.mono ?_
 rintro e w1 ⟨⟨i,rfl,hi⟩,hb⟩
 have HI:=Lib.hid hi
 have HB:=Lib.hid hb
 clear hi hb
 go_wp2
 go_ret
 exact ⟨ret_b HI.out.symm,HB.out⟩
end
section
open Go.RowKit Go.Shelf

def hasB (l:List ByteArray) (s:ByteArray):Bool:=l.any (fun x=>decide (x=s))
theorem hasB_yes {l:List ByteArray} {s:ByteArray} {k:Nat} (hl:k < l.length) (e:l[k]=s):hasB l s=true:=by
 unfold hasB;rw [List.any_eq_true];exact ⟨l[k],List.getElem_mem hl,by simp [e]⟩
theorem hasB_end {l:List ByteArray} {s:ByteArray} {k:Nat} (hk:¬ k < l.length) (h:∀ j (hj:j < l.length),j < k→¬ l[j]=s):hasB l s=false:=by
 unfold hasB;rw [List.any_eq_false]
 intro x hx
 obtain ⟨j,hj,rfl⟩:=List.getElem_of_mem hx
 simp [h j hj (by omega)]
def posSB:List ByteArray→ByteArray→Nat
 | [],_=>0
 | a :: r,x=>if cmpS a x < 0 then posSB r x+1 else 0
def insAtB (l:List ByteArray) (x:ByteArray) (k:Nat):List ByteArray:=l.take k++x :: l.drop k
def insSB (l:List ByteArray) (x:ByteArray):List ByteArray:=if hasB l x then l else insAtB l x (posSB l x)
def insAllB:List ByteArray→List ByteArray→List ByteArray
 | acc,[]=>acc
 | acc,x :: l=>insAllB (insSB acc x) l
theorem pos_leB:∀ (l:List ByteArray) (x:ByteArray),posSB l x≤l.length
 | [],_=>Nat.le_refl _
 | a :: r,x=>by unfold posSB;have:=pos_leB r x;split <;> simp <;> omega
theorem pos_ofB:∀ (l:List ByteArray) (x:ByteArray) (k:Nat),k≤l.length→(∀ j (hj:j < l.length),j < k→cmpS l[j] x < 0)→(∀ hk:k < l.length,¬ cmpS l[k] x < 0)→posSB l x=k
 | [],x,k,hk,_,_=>by simp at hk;subst hk;rfl
 | a :: r,x,0,_,_,h=>by
  have h':¬ cmpS a x < 0:=h (by simp)
  unfold posSB;rw [if_neg h']
 | a :: r,x,k+1,hk,h1,h2=>by
  have h':cmpS a x < 0:=h1 0 (by simp) (by omega)
  unfold posSB
  rw [if_pos h',pos_ofB r x k (by simpa using hk) (fun j hj hjk=>h1 (j+1) (by simp;omega) (by omega)) (fun hk'=>h2 (by simp;omega))]
theorem insS_lenB (l:List ByteArray) (x:ByteArray):(insSB l x).length≤l.length+1:=by
 unfold insSB insAtB;split
 ·omega
 ·simp [List.length_take,List.length_drop];have:=pos_leB l x;omega
theorem insS_hasB {l:List ByteArray} {x:ByteArray} (h:hasB l x=true):insSB l x=l:=if_pos h
theorem insS_notB {l:List ByteArray} {x:ByteArray} (h:hasB l x=false):insSB l x=insAtB l x (posSB l x):=if_neg (by rw [h];exact Bool.false_ne_true)
theorem insAt_lenB {l:List ByteArray} {x:ByteArray} {j:Nat} (hj:j≤l.length):(insAtB l x j).length=j+1+(l.length - j):=by
 unfold insAtB;rw [List.length_append,List.length_cons,List.length_take,List.length_drop];omega
theorem eqB_self (x:ByteArray):decide (x=x)=true:=decide_eq_true rfl
theorem hasB_mem (l:List ByteArray) (x:ByteArray):hasB l x=true↔x∈l:=by
 unfold hasB;rw [List.any_eq_true]
 constructor
 ·rintro ⟨y,hy,e⟩;rw [← of_decide_eq_true e];exact hy
 ·intro h;exact ⟨x,h,eqB_self x⟩
theorem lt_trans'B {x y z:ByteArray} (h:cmpS x y < 0) (h':cmpS y z < 0):cmpS x z < 0:=by
 obtain ⟨a,b⟩:=wcmp_str.le x y z (by omega) (by omega)
 have:¬ cmpS x z=0:=fun e=>by have:=(b e).1;omega
 omega
theorem lt_irrefl'B (x:ByteArray):¬ cmpS x x < 0:=by have:=(cmpS_zero x x).2 rfl;omega
def AscB (l:List ByteArray):Prop:=l.Pairwise fun x y=>cmpS x y < 0
theorem asc_uniqueB:∀ (l m:List ByteArray),AscB l→AscB m→(∀ x,x∈l↔x∈m)→l=m
 | [],[],_,_,_=>rfl
 | [],y :: m,_,_,h=>absurd ((h y).2 (by simp)) (by simp)
 | x :: l,[],_,_,h=>absurd ((h x).1 (by simp)) (by simp)
 | x :: l,y :: m,hl,hm,h=>by
  have hl':=List.pairwise_cons.1 hl
  have hm':=List.pairwise_cons.1 hm
  have e:x=y:=by
   rcases List.mem_cons.1 ((h x).1 (by simp)) with e | e
   ·exact e
   ·rcases List.mem_cons.1 ((h y).2 (by simp)) with e' | e'
    ·exact e'.symm
    ·exact absurd (lt_trans'B (hm'.1 x e) (hl'.1 y e')) (lt_irrefl'B y)
  subst e
  refine congrArg (x :: ·) (asc_uniqueB l m hl'.2 hm'.2 fun z=>?_)
  constructor
  ·intro hz
   rcases List.mem_cons.1 ((h z).1 (by simp [hz])) with e | e
   ·subst e;exact absurd (hl'.1 z hz) (lt_irrefl'B z)
   ·exact e
  ·intro hz
   rcases List.mem_cons.1 ((h z).2 (by simp [hz])) with e | e
   ·subst e;exact absurd (hm'.1 z hz) (lt_irrefl'B z)
   ·exact e
theorem insS_memB (l:List ByteArray) (x z:ByteArray):z∈insSB l x↔z∈l∨z=x:=by
 unfold insSB
 by_cases h:hasB l x=true
 ·rw [if_pos h]
  exact ⟨.inl,fun h'=>h'.elim id (fun e=>e ▸ (hasB_mem l x).1 h)⟩
 ·rw [if_neg h]
  unfold insAtB
  rw [List.mem_append,List.mem_cons]
  have:=List.take_append_drop (posSB l x) l
  constructor
  ·rintro (h | h | h)
   ·exact .inl (List.mem_of_mem_take h)
   ·exact .inr h
   ·exact .inl (List.mem_of_mem_drop h)
  ·rintro (h | h)
   ·rw [← this] at h
    rcases List.mem_append.1 h with h | h
    ·exact .inl h
    ·exact .inr (.inr h)
   ·exact .inr (.inl h)
theorem pos_takeB:∀ (l:List ByteArray) (x z:ByteArray),z∈l.take (posSB l x)→cmpS z x < 0
 | [],_,_,h=>by simp at h
 | a :: r,x,z,h=>by
  unfold posSB at h
  by_cases ha:cmpS a x < 0
  ·rw [if_pos ha] at h
   rcases List.mem_cons.1 (by simpa using h) with rfl | h
   ·exact ha
   ·exact pos_takeB r x z h
  ·rw [if_neg ha] at h;simp at h
theorem pos_dropB:∀ (l:List ByteArray) (x z:ByteArray),AscB l→z∈l.drop (posSB l x)→¬ cmpS z x < 0
 | [],_,_,_,h=>by simp at h
 | a :: r,x,z,hl,h=>by
  unfold posSB at h
  by_cases ha:cmpS a x < 0
  ·rw [if_pos ha] at h
   exact pos_dropB r x z (List.pairwise_cons.1 hl).2 (by simpa using h)
  ·rw [if_neg ha] at h
   rcases List.mem_cons.1 (by simpa using h) with rfl | h
   ·exact ha
   ·have:=(List.pairwise_cons.1 hl).1 z h
    intro hz;exact ha (lt_trans'B this hz)
theorem insS_ascB {l:List ByteArray} (h:AscB l) (x:ByteArray):AscB (insSB l x):=by
 unfold insSB
 by_cases hx:hasB l x=true
 ·rw [if_pos hx];exact h
 ·rw [if_neg hx]
  have hn:¬ x∈l:=fun h'=>hx ((hasB_mem l x).2 h')
  have h1:AscB (l.take (posSB l x)):=h.sublist (List.take_sublist _ _)
  have h2:AscB (l.drop (posSB l x)):=h.sublist (List.drop_sublist _ _)
  have h3:∀ a∈l.take (posSB l x),∀ b∈l.drop (posSB l x),cmpS a b < 0:=by
   have:=h
   rw [AscB,← List.take_append_drop (posSB l x) l,List.pairwise_append] at this
   exact this.2.2
  unfold insAtB AscB
  rw [List.pairwise_append,List.pairwise_cons]
  refine ⟨h1,⟨fun b hb=>?_,h2⟩,fun a ha b hb=>?_⟩
  ·have h4:=pos_dropB l x b h hb
   have h5:¬ cmpS b x=0:=fun e=>hn ((cmpS_zero b x).1 e ▸ List.mem_of_mem_drop hb)
   have:=wcmp_str.neg b x
   omega
  ·rcases List.mem_cons.1 hb with rfl | hb
   ·exact pos_takeB l b a ha
   ·exact h3 a ha b hb
theorem insAll_ascB:∀ (l acc:List ByteArray),AscB acc→AscB (insAllB acc l)
 | [],_,h=>h
 | x :: l,_,h=>insAll_ascB l _ (insS_ascB h x)
theorem insAll_memB:∀ (l acc:List ByteArray) (z:ByteArray),z∈insAllB acc l↔z∈acc∨z∈l
 | [],acc,z=>by simp [insAllB]
 | x :: l,acc,z=>by
  unfold insAllB
  rw [insAll_memB l,insS_memB,List.mem_cons,or_assoc]
theorem insAll_lenB:∀ (l acc:List ByteArray),(insAllB acc l).length≤acc.length+l.length
 | [],acc=>Nat.le_refl _
 | x :: r,acc=>by
  have h1:=insAll_lenB r (insSB acc x)
  have h2:=insS_lenB acc x
  show (insAllB (insSB acc x) r).length≤acc.length+(r.length+1)
  omega
end
section
open Go.RowKit Go.Shelf

def newB (l:List ByteArray):List ByteArray:=insAllB [] l
theorem new_asc (l:List ByteArray):AscB (newB l):=insAll_ascB l [] List.Pairwise.nil
theorem new_mem (l:List ByteArray) (x:ByteArray):x∈newB l↔x∈l:=by unfold newB;rw [insAll_memB];simp
theorem new_len (l:List ByteArray):(newB l).length≤l.length:=by have:=insAll_lenB l [];simpa [newB] using this
theorem hasB_mem' (l:List ByteArray) (x:ByteArray):hasB l x=true↔x∈l:=hasB_mem l x
def idxB:List ByteArray→ByteArray→Nat
 | [],_=>0
 | a :: r,s=>if a=s then 0 else idxB r s+1
def placeB (l:List ByteArray) (s:ByteArray):Int:=if hasB l s=true then (idxB l s:Int) else -1
theorem idxB_lt:∀ (l:List ByteArray) (s:ByteArray),s∈l→idxB l s < l.length
 | [],_,h=>by cases h
 | a :: r,s,h=>by
  unfold idxB
  by_cases e:a=s
  ·rw [if_pos e];simp
  ·rw [if_neg e,List.length_cons]
   have:=idxB_lt r s ((List.mem_cons.1 h).resolve_left (fun h'=>e h'.symm))
   omega
theorem idxB_get:∀ (l:List ByteArray) (s:ByteArray) (h:s∈l),l[idxB l s]'(idxB_lt l s h)=s
 | [],_,h=>by cases h
 | a :: r,s,h=>by
  by_cases e:a=s
  ·have h0:idxB (a :: r) s=0:=by show (if a=s then 0 else idxB r s+1)=0;rw [if_pos e]
   simp only [h0,List.getElem_cons_zero];exact e
  ·have h1:idxB (a :: r) s=idxB r s+1:=by show (if a=s then 0 else idxB r s+1)=_;rw [if_neg e]
   simp only [h1,List.getElem_cons_succ]
   exact idxB_get r s ((List.mem_cons.1 h).resolve_left (fun h'=>e h'.symm))
theorem idxB_first:∀ (l:List ByteArray) (s:ByteArray) (k:Nat) (hk:k < l.length),l[k]=s→(∀ j (hj:j < l.length),j < k→¬ l[j]=s)→idxB l s=k
 | [],_,_,hk,_,_=>by simp at hk
 | a :: r,s,0,_,h,_=>by
  have h':a=s:=h
  show (if a=s then 0 else idxB r s+1)=0
  rw [if_pos h']
 | a :: r,s,k+1,hk,h,h'=>by
  have h0:¬ a=s:=h' 0 (by simp) (by omega)
  show (if a=s then 0 else idxB r s+1)=k+1
  rw [if_neg h0,idxB_first r s k (by simpa using hk) (by simpa using h) (fun j hj hjk e=>h' (j+1) (by simp;omega) (by omega) e)]
theorem place_first {l:List ByteArray} {s:ByteArray} {k:Nat} (hk:k < l.length) (h:l[k]=s) (h':∀ j (hj:j < l.length),j < k→¬ l[j]=s):placeB l s=k:=by
 unfold placeB
 rw [if_pos ((hasB_mem l s).2 (h ▸ List.getElem_mem hk)),idxB_first l s k hk h h']
theorem place_no {l:List ByteArray} {s:ByteArray} (h:∀ j (hj:j < l.length),¬ l[j]=s):placeB l s = -1:=by
 unfold placeB
 rw [if_neg]
 intro h1
 obtain ⟨j,hj,e⟩:=List.getElem_of_mem ((hasB_mem l s).1 h1)
 exact h j hj e
theorem place_range (l:List ByteArray) (s:ByteArray) : -1≤placeB l s∧placeB l s < l.length:=by
 unfold placeB
 by_cases h:hasB l s=true
 ·rw [if_pos h];have:=idxB_lt l s ((hasB_mem l s).1 h);omega
 ·rw [if_neg h];omega
theorem place_asc {l:List ByteArray} (hl:AscB l) {s:ByteArray} {k:Nat} (hk:k < l.length) (h:l[k]=s):placeB l s=k :=
 place_first hk h (fun j hj hjk e=>by
  have:=List.pairwise_iff_getElem.1 hl j k hj hk hjk
  rw [e,h] at this
  exact lt_irrefl'B s this)
theorem place_gap {l:List ByteArray} (_:AscB l) {s:ByteArray} {k:Nat} (h1:∀ j (hj:j < l.length),j < k→cmpS l[j] s < 0) (h2:∀ j (hj:j < l.length),k≤j→¬ cmpS l[j] s < 0) (h3:∀ hk:k < l.length,¬ l[k]=s) (hl:AscB l):placeB l s = -1 :=
 place_no (fun j hj e=>by
  by_cases hjk:j < k
  ·have:=h1 j hj hjk
   rw [e] at this
   exact lt_irrefl'B s this
  ·have hk:k < l.length:=by omega
   by_cases hjk2:j=k
   ·subst hjk2;exact h3 hk e
   ·have:=List.pairwise_iff_getElem.1 hl k j hk hj (by omega)
    rw [e] at this
    exact h2 k hk (Nat.le_refl _) this)
structure Ru where
 k:Int
 h:Int
 who:Int
 a:Int
 b:Int
 via:Int
deriving DecidableEq
abbrev ruv (r:Ru):Value:=.agg #[.int .i64 r.k,.int .i64 r.h,.int .i64 r.who,.int .i64 r.a,.int .i64 r.b,.int .i64 r.via]
def noRu:Ru:=⟨0,0,0,0,0,0⟩
def roleN (a b:List ByteArray) (r:Rl):Int:=if placeB a r.o < 0∨placeB b r.n < 0 then -1 else placeB a r.o * b.length+placeB b r.n
def ruleR (a b:List ByteArray) (s:St):Ru:=⟨s.k,roleN a b s.h,if s.k=1 then placeB a s.who else 0,if s.k=1 then 0 else roleN a b s.a,if s.k=4 then roleN a b s.b else 0,if s.k=3 then placeB b s.via else 0⟩
def ruleOk (r:Ru):Bool:=decide (0≤r.h∧0≤r.who∧0≤r.a∧0≤r.b∧0≤r.via)
def ruleN (a b:List ByteArray) (s:St):Ru × Bool:=if rightS s=true∧ruleOk (ruleR a b s)=true then (ruleR a b s,true) else (noRu,false)
def roleAt (a b:List ByteArray) (i:Int):Rl:=if h:0≤i∧i.toNat < a.length * b.length then ⟨a[i.toNat / b.length]'(Nat.div_lt_of_lt_mul (by rw [Nat.mul_comm];exact h.2)),b[i.toNat % b.length]'(Nat.mod_lt _ (Nat.pos_of_ne_zero (fun e=>by have:=h.2;rw [e] at this;omega)))⟩ else noR
end
section
open Go.RowKit Go.Shelf Go.Lib Go.Sort

def dedupG {α:Type} [DecidableEq α]:List α→List α
 | []=>[]
 | [x]=>[x]
 | x :: y :: r=>if x=y then dedupG (y :: r) else x :: dedupG (y :: r)
section
variable {α:Type} [DecidableEq α]
theorem dedupG_mem:∀ (l:List α) (z:α),z∈dedupG l↔z∈l
 | [],z=>by simp [dedupG]
 | [x],z=>by simp [dedupG]
 | x :: y :: r,z=>by
  have ih:=dedupG_mem (y :: r) z
  unfold dedupG
  by_cases e:x=y
  ·rw [if_pos e,ih,e];simp
  ·rw [if_neg e,List.mem_cons,ih,List.mem_cons (b:=x)]
theorem dedupG_snoc:∀ (p:List α) (y z:α),dedupG (p++[y,z])=if y=z then dedupG (p++[y]) else dedupG (p++[y])++[z]
 | [],y,z=>by
  show dedupG [y,z]=if y=z then dedupG [y] else dedupG [y]++[z]
  unfold dedupG
  by_cases h:y=z
  ·rw [if_pos h,if_pos h,h];rfl
  ·rw [if_neg h,if_neg h];rfl
 | [x],y,z=>by
  have ih:=dedupG_snoc [] y z
  simp only [List.nil_append] at ih
  show dedupG (x :: y :: [z])=if y=z then dedupG (x :: y :: []) else dedupG (x :: y :: [])++[z]
  have e1:dedupG (x :: y :: [z])=if x=y then dedupG [y,z] else x :: dedupG [y,z]:=rfl
  have e2:dedupG (x :: y :: [])=if x=y then dedupG [y] else x :: dedupG [y]:=rfl
  rw [e1,e2,ih]
  by_cases h1:x=y <;> by_cases h2:y=z <;> simp [h1,h2]
 | x :: x' :: p,y,z=>by
  have ih:=dedupG_snoc (x' :: p) y z
  simp only [List.cons_append] at ih ⊢
  have e1:∀ r,dedupG (x :: x' :: r)=if x=x' then dedupG (x' :: r) else x :: dedupG (x' :: r):=fun _=>rfl
  rw [e1,e1,ih]
  by_cases h1:x=x' <;> by_cases h2:y=z <;> simp [h1,h2]
theorem compactUpTo_dedup [Inhabited α] (zs:List α):∀ m,m≤zs.length→compactUpTo zs.toArray m=dedupG (zs.take m)
 | 0,_=>rfl
 | 1,h=>by
  rw [compactUpTo_succ,keeps_lt_one _ 0 (by omega)]
  match zs,h with
  | x :: r,_=>simp [compactUpTo,dedupG]
 | m+2,h=>by
  have ih:=compactUpTo_dedup zs (m+1) (by omega)
  have e0:zs.toArray[m+1]! = zs[m+1]:=by simp [show m+1 < zs.length by omega]
  have e1:zs.toArray[m]! = zs[m]:=by simp [show m < zs.length by omega]
  have et:zs.take (m+2)=zs.take m++[zs[m],zs[m+1]]:=by
   rw [List.take_succ_eq_append_getElem (by omega),List.take_succ_eq_append_getElem (by omega),List.append_assoc];rfl
  have et1:zs.take (m+1)=zs.take m++[zs[m]]:=List.take_succ_eq_append_getElem (by omega)
  rw [compactUpTo_succ,ih,et,dedupG_snoc,← et1]
  by_cases e:zs[m]=zs[m+1]
  ·rw [if_pos e,keeps_neg (by omega) (by rw [e0,show m+1 - 1=m by omega,e1];exact e.symm)]
   simp
  ·rw [if_neg e,keeps_pos (by rw [e0,show m+1 - 1=m by omega,e1];exact fun h=>e h.symm),if_pos rfl,e0]
theorem compact_dedup [Inhabited α] (zs:List α):compact zs=dedupG zs:=by
 unfold compact
 rw [compactUpTo_dedup zs _ (Nat.le_refl _),List.take_of_length_le (Nat.le_refl _)]
end
def toBA (x:List UInt8):ByteArray:=⟨x.toArray⟩
theorem bl_toBA (x:List UInt8):bl (toBA x)=x:=by simp [bl,toBA]
theorem toBA_bl (x:ByteArray):toBA (bl x)=x:=by cases x;simp [bl,toBA]
theorem toBA_inj {x y:List UInt8} (h:toBA x=toBA y):x=y:=by rw [← bl_toBA x,h,bl_toBA]
theorem le_cmp (x y:List UInt8):x≤y↔compareBytes x y≤0:=by
 have h1:=bytesLess_eq y x
 have h2:=cmp_less y x
 have h3:=cmp_neg x y
 rw [h1] at h2
 have h4:y < x↔compareBytes y x < 0:=by
  constructor
  ·intro h;exact of_decide_eq_true (h2 ▸ decide_eq_true h)
  ·intro h;exact of_decide_eq_true (h2.symm ▸ decide_eq_true h)
 rw [← List.not_lt,h4]
 omega
theorem dedupG_asc:∀ (l:List (List UInt8)),(l.Pairwise fun x y=>x≤y)→AscB ((dedupG l).map toBA)
 | [],_=>List.Pairwise.nil
 | [x],_=>by simp [dedupG,AscB]
 | x :: y :: r,h=>by
  have h':=List.pairwise_cons.1 h
  have ih:=dedupG_asc (y :: r) h'.2
  unfold dedupG
  by_cases e:x=y
  ·rw [if_pos e];exact ih
  ·rw [if_neg e,List.map_cons]
   refine List.pairwise_cons.2 ⟨fun z hz=>?_,ih⟩
   obtain ⟨z',hz',rfl⟩:=List.mem_map.1 hz
   have hz'':=(dedupG_mem (y :: r) z').1 hz'
   have hxz:compareBytes x z'≤0:=(le_cmp x z').1 (h'.1 z' hz'')
   have hxy:compareBytes x y≤0:=(le_cmp x y).1 (h'.1 y (by simp))
   have hyz:compareBytes y z'≤0:=by
    rcases List.mem_cons.1 hz'' with rfl | hz''
    ·have:=(cmp_zero z' z').2 rfl;omega
    ·exact (le_cmp y z').1 ((List.pairwise_cons.1 h'.2).1 z' hz'')
   have hne:¬ compareBytes x y=0:=fun h0=>e ((cmp_zero x y).1 h0)
   obtain ⟨_,h2⟩:=cmpB_le x y z' hxy hyz
   have hne2:¬ compareBytes x z'=0:=fun h0=>hne (h2 h0).1
   show compareBytes (bl (toBA x)) (bl (toBA z')) < 0
   rw [bl_toBA,bl_toBA]
   omega
theorem sorted_new (l:List ByteArray):(compact ((l.map bl).mergeSort fun x y=>decide (x≤y))).map toBA=newB l:=by
 rw [compact_dedup]
 have hs:((l.map bl).mergeSort fun x y=>decide (x≤y)).Pairwise fun x y=>x≤y:=by
  have h:=List.pairwise_mergeSort (le:=fun (x y:List UInt8)=>decide (x≤y)) (fun a b c h1 h2=>decide_eq_true (List.le_trans (of_decide_eq_true h1) (of_decide_eq_true h2))) (fun a b=>by
   rw [Bool.or_eq_true,decide_eq_true_iff,decide_eq_true_iff];exact List.le_total a b) (l.map bl)
  exact h.imp (fun h=>of_decide_eq_true h)
 refine asc_uniqueB _ _ (dedupG_asc _ hs) (new_asc l) fun z=>?_
 rw [new_mem,List.mem_map]
 constructor
 ·rintro ⟨x,hx,rfl⟩
  have:=(dedupG_mem _ x).1 hx
  rw [List.mem_mergeSort,List.mem_map] at this
  obtain ⟨y,hy,rfl⟩:=this
  rw [toBA_bl];exact hy
 ·intro hz
  refine ⟨bl z,(dedupG_mem _ _).2 ?_,toBA_bl z⟩
  rw [List.mem_mergeSort]
  exact List.mem_map.2 ⟨z,hz,rfl⟩
end
section
open Go.RowKit Go.Shelf Go.Sort

def TabAt (w:World) (b:Nat) (l:List ByteArray):Prop:=∃ v,w.cell? ⟨b,0,none⟩=some v∧Sl w 1 v l.length (strs l)∧b < w.heap.size
theorem TabAt.below {w w':World} {b:Nat} {l:List ByteArray} (h:TabAt w b l) (hb:Below w.heap.size w w'):TabAt w' b l:=by
 obtain ⟨v,h1,h2,h3⟩:=h
 exact ⟨v,(hb.cell (p:=⟨b,0,none⟩) h3).trans h1,h2.below hb,Nat.lt_of_lt_of_le h3 hb.size⟩
theorem tab_new {w1:World} {v:Value} {l:List ByteArray} (h:Sl w1 1 v l.length (strs l)) (t:TypeId):TabAt (w1.alloc (.cells #[v] t)) w1.heap.size l :=
 ⟨v,(Blk.new w1 #[v] t).1 0,h.below ((Below.refl _ _).alloc (Nat.le_refl _) _),by simp⟩
theorem strs_bl (l:List ByteArray):strs l=(l.map bl).map encStr:=by
 unfold strs
 rw [List.map_map]
 refine List.map_congr_left fun x _=>?_
 show Value.string x=Value.string (toBA (bl x))
 rw [toBA_bl]
theorem sorted_strs (l:List ByteArray):(Lib.compact ((l.map bl).mergeSort fun x y=>decide (x≤y))).map encStr=strs (newB l):=by
 rw [← sorted_new l]
 unfold strs
 rw [List.map_map];rfl
theorem sorted_len (l:List ByteArray):(Lib.compact ((l.map bl).mergeSort fun x y=>decide (x≤y))).length=(newB l).length:=by
 have:=congrArg List.length (sorted_new l)
 rwa [List.length_map] at this
theorem new_left {w w1:World} {g cap n nn q:Nat} {os:Array Obj} {ss:List (List UInt8)} (hown:w1.ownsRow w.heap.size 9 1 (.slice (some ⟨g,0,none⟩) n cap) n (ss.map encStr)) (hbel:Below w.heap.size w w1) (hbg:w.heap.size≤g) (hlen:ss.length=n) (w':World)
  (hw':w'=putRow encStr (Sort.ahead (grow (putRow encStr (Sort.ahead w1 nn) g 0 (ss.mergeSort fun x y=>decide (x≤y)).toArray) os) q) g 0 (Lib.compact (ss.mergeSort fun x y=>decide (x≤y))++List.replicate (n - (Lib.compact (ss.mergeSort fun x y=>decide (x≤y))).length) []).toArray) :
  w'.ownsRow w.heap.size 9 1 (.slice (some ⟨g,0,none⟩) (Lib.compact (ss.mergeSort fun x y=>decide (x≤y))).length cap) (Lib.compact (ss.mergeSort fun x y=>decide (x≤y))).length ((Lib.compact (ss.mergeSort fun x y=>decide (x≤y))).map encStr)∧Below w.heap.size w w':=by
 subst hw'
 have hl2:(ss.mergeSort fun x y=>decide (x≤y)).length=ss.length:=List.length_mergeSort ss
 have hle:=Lib.compact_length_le (ss.mergeSort fun x y=>decide (x≤y))
 subst hlen
 rcases hown.2 with ⟨h0,_⟩ | ⟨g',cap',cur,hv,hbase,hb,h1,h2,h3,h4⟩
 ·cases h0
 cases hv
 have hs:=ownsRow_sorted (n:=nn) (os:=os) (ts:=ss.mergeSort fun x y=>decide (x≤y)) hl2 hbase hb h1 h2 h3
 have hc:=Lib.ownsRow_putRow (q:=q) (k:=(Lib.compact (ss.mergeSort fun x y=>decide (x≤y))).length) (ys:=Lib.compact (ss.mergeSort fun x y=>decide (x≤y))++List.replicate (ss.length - (Lib.compact (ss.mergeSort fun x y=>decide (x≤y))).length) []) hs (by simp;omega) (by omega)
 rw [List.take_left] at hc
 exact ⟨hc,Lib.below_putRow (hbel.grown (grownBy_sorted _) hbel.size (fun j hj=>by cases hj;exact hbase)) hbg⟩
set_option maxRecDepth 100000 in
set_option maxHeartbeats 4000000 in
theorem names_New (va:Value) (l:List ByteArray) (w:World) (ha:SlA w 1 va l.length (strs l)) (hl:l.length≤100000) :
  Calls Tryz.prog 132 #[va] w fun e w' => ∃ b,e=.returned (.pointer (some ⟨b,0,none⟩))∧TabAt w' b (newB l)∧w.heap.size≤b∧Below w.heap.size w w':=by
 by_cases h0:0 < l.length
 ·obtain ⟨b1,o1,c1,rfl,hc1,hm1,hb1,hx1⟩:=ha.pos h0
  have CL:=Lib.hid (Tryz.slices_Clone_string b1 o1 l.length c1 l w (Nat.le_refl _) (by omega) (fun j hj=>by
   rw [hx1 j _ (strs_get hj),List.getD_eq_getElem?_getD,List.getElem?_eq_getElem hj];rfl))
  have SL:=Lib.hid (strs_bl l)
  have SN:=Lib.hid (sorted_strs l)
  have SE:=Lib.hid (sorted_len l)
  clear ha hx1
  go_enter Tryz.func132,Tryz.ntmps132
  go_wp2_with fail
  refine CL.out.mono ?_
  rintro e w1 ⟨v1,rfl,hown,hnn,hbel⟩
  rw [List.take_of_length_le (Nat.le_refl _),show l.map Value.string=(l.map bl).map encStr from SL.out] at hown
  obtain ⟨g,cap,rfl,hbg,hgl,hncap,hcm,hlen,hH⟩:=Lib.holds_of_ownsRow hown hnn
  have HOWN:=Lib.hid hown
  have HBEL:=Lib.hid hbel
  have SO:=Lib.hid (Tryz.slices_Sort_string g 0 cap (l.map bl) w1 hH hgl (by rw [List.length_map];omega))
  rw [List.length_map] at SO
  have HH:=Lib.hid hH
  clear hown hbel hH hnn CL SL
  go_wp2_with fail
  refine SO.out.mono ?_
  rintro e w2 ⟨rfl,nn,os,hw2⟩
  have hl2:((l.map bl).mergeSort fun x y=>decide (x≤y)).length=l.length:=by rw [List.length_mergeSort,List.length_map]
  have hH2:Holds encStr w2 g 0 ((l.map bl).mergeSort fun x y=>decide (x≤y)).toArray:=by
   rw [hw2]
   exact holds_grow encStr _ os g 0 _ (by simpa [putRow,mapBlock,Sort.ahead] using hgl) (holds_putRow encStr _ g 0 _ _ (holds_ahead encStr w1 nn g 0 _ HH.out) (by simp))
  have CO:=Lib.hid (Tryz.slices_Compact_string g 0 cap ((l.map bl).mergeSort fun x y=>decide (x≤y)) w2 hH2 (by omega) (by omega))
  rw [hl2] at CO
  have HW2:=Lib.hid hw2
  clear hH2 SO HH hw2
  go_wp2_with fail
  refine CO.out.mono ?_
  rintro e w3 ⟨rfl,q,hw3⟩
  have LE:=new_left (w:=w) (q:=q) HOWN.out HBEL.out hbg (by simp) w3 (by rw [hw3,HW2.out])
  rw [SN.out,SE.out] at LE
  have HS:=Lib.hid (Sl.of_own LE.1)
  have HB:=Lib.hid LE.2
  have hz:=LE.2.size
  rw [SE.out]
  clear LE hw3 CO HW2 HOWN HBEL SN SE hl2
  go_wp2
  go_ret
  exact ⟨_,rfl,tab_new HS.out _,hz,HB.out.alloc HB.out.size _⟩
 ·obtain rfl:l=[]:=List.eq_nil_of_length_eq_zero (by omega)
  obtain ⟨ao,ac,rfl⟩:=ha.form
  cases ao with
  | none =>
   clear ha
   go_enter Tryz.func132,Tryz.ntmps132
   go_wp2_with fail
   refine (Tryz.slices_Clone_string_nil 0 ac w).mono ?_
   rintro e w1 ⟨rfl,rfl⟩
   go_wp2_with fail
   refine (Tryz.slices_Sort_string_none none 0 _).mono ?_
   rintro e w2 ⟨rfl,rfl⟩
   go_wp2_with fail
   refine (Tryz.slices_Compact_string_empty none 0 _).mono ?_
   rintro e w3 ⟨rfl,rfl⟩
   go_wp2
   go_ret
   exact ⟨_,rfl,tab_new (Sl.nil _ _) _,Nat.le_refl _,(Below.refl _ _).alloc (Nat.le_refl _) _⟩
  | some a =>
   clear ha
   go_enter Tryz.func132,Tryz.ntmps132
   go_wp2_with fail
   refine (Tryz.slices_Clone_string_zero a ac w).mono ?_
   rintro e w1 ⟨v1,rfl,hown,hnn,hbel⟩
   obtain ⟨vo,vc,rfl⟩:=own_form hown
   have HS:=Lib.hid (Sl.of_own hown)
   have HB:=Lib.hid hbel
   have hz:=hbel.size
   clear hown hnn hbel
   go_wp2_with fail
   refine (Tryz.slices_Sort_string_none _ _ _).mono ?_
   rintro e w2 ⟨rfl,rfl⟩
   go_wp2_with fail
   refine (Tryz.slices_Compact_string_empty _ _ _).mono ?_
   rintro e w3 ⟨rfl,rfl⟩
   go_wp2
   go_ret
   exact ⟨_,rfl,tab_new (l:=[]) HS.out _,hz,HB.out.alloc HB.out.size _⟩
end
section
open Go.RowKit Go.Shelf

theorem tab_Len (b:Nat) (l:List ByteArray) (w:World) (h:TabAt w b l) :
  Calls Tryz.prog 130 #[.pointer (some ⟨b,0,none⟩)] w fun e w'=>e=.returned (.int .i64 l.length)∧w'=w:=by
 obtain ⟨v,h1,h2,h3⟩:=h
 obtain ⟨a,c,rfl⟩:=h2.form
 clear h2
 go_enter Tryz.func130,Tryz.ntmps130
 go_wp2
 go_ret
 exact ⟨rfl,rfl⟩
def atB (l:List ByteArray) (i:Int):ByteArray:=if h:0≤i∧i.toNat < l.length then l[i.toNat]'h.2 else emp
theorem tab_At (b:Nat) (l:List ByteArray) (i:Int) (w:World) (h:TabAt w b l) (hi : -9223372036854775808≤i∧i≤9223372036854775807) :
  Calls Tryz.prog 74 #[.pointer (some ⟨b,0,none⟩),.int .i64 i] w fun e w'=>e=.returned (.string (atB l i))∧w'=w:=by
 have LN:=Lib.hid (tab_Len b l w h)
 obtain ⟨v,h1,h2,h3⟩:=h
 have hmax:=h2.max
 by_cases hneg:i < 0
 ·have R:=Lib.hid (show atB l i=emp by unfold atB;rw [dif_neg (by omega)])
  have d:decide (i < 0)=true:=decide_eq_true hneg
  clear h2 hneg
  go_enter Tryz.func74,Tryz.ntmps74
  go_wp2
  go_ret
  exact ⟨by rw [R.out];rfl,rfl⟩
 ·obtain ⟨k,rfl⟩:=Int.eq_ofNat_of_zero_le (by omega:0≤i)
  have d:decide ((k:Int) < 0)=false:=by rw [decide_eq_false_iff_not];omega
  by_cases hk:k < l.length
  ·have R:=Lib.hid (show atB l (k:Int)=l[k] by unfold atB;rw [dif_pos (by simp;omega)];rfl)
   obtain ⟨b1,o1,c1,rfl,hc1,hm1,hb1,hx1⟩:=h2.pos (by omega)
   have p0:=hx1 k _ (strs_get hk)
   have d2:decide ((l.length:Int)≤(k:Int))=false:=by rw [decide_eq_false_iff_not];omega
   clear h2 hx1 hneg
   go_enter Tryz.func74,Tryz.ntmps74
   go_wp2_with fail
   refine LN.out.mono ?_
   rintro e w1 ⟨rfl,rfl⟩
   go_wp2
   go_ret
   exact ⟨by rw [R.out];rfl,rfl⟩
  ·have R:=Lib.hid (show atB l (k:Int)=emp by unfold atB;rw [dif_neg (by simp;omega)])
   have d2:decide ((l.length:Int)≤(k:Int))=true:=by rw [decide_eq_true_iff];omega
   clear h2 hneg
   go_enter Tryz.func74,Tryz.ntmps74
   go_wp2_with fail
   refine LN.out.mono ?_
   rintro e w1 ⟨rfl,rfl⟩
   go_wp2
   go_ret
   exact ⟨by rw [R.out];rfl,rfl⟩
theorem cmp_isNaNs (s:ByteArray) (w:World):Calls Tryz.prog 312 #[.string s] w fun e w'=>e=.returned (.bool false)∧w'=w:=by
 go_enter Tryz.func312,Tryz.ntmps312
 go_wp2
 go_ret
 exact ⟨by simp,rfl⟩
theorem sl_isNaNs (s:ByteArray) (w:World):Calls Tryz.prog 262 #[.string s] w fun e w'=>e=.returned (.bool false)∧w'=w:=by
 go_enter Tryz.func262,Tryz.ntmps262
 go_wp2
 go_ret
 exact ⟨by simp,rfl⟩
theorem cmp_LessS (x y:ByteArray) (w:World):Calls Tryz.prog 261 #[.string x,.string y] w fun e w'=>e=.returned (.bool (decide (cmpS x y < 0)))∧w'=w:=by
 have N:=Lib.hid (fun W=>cmp_isNaNs x W)
 have E:=Lib.hid (str_less x y)
 generalize decide (cmpS x y < 0)=r at E ⊢
 go_enter Tryz.func261,Tryz.ntmps261
 go_wp2_with fail
 refine (N.out _).mono ?_
 rintro e w1 ⟨rfl,rfl⟩
 go_wp2
 go_ret
 exact ⟨by rw [E.out];rfl,rfl⟩
end
section
open Go.RowKit Go.Shelf

theorem search_yes {l:List ByteArray} (hl:AscB l) {s:ByteArray} {h:Nat} (hh:h < l.length) (e:cmpS l[h] s < 0):∀ k (hk:k < l.length),k < h+1→cmpS l[k] s < 0:=fun k hk hkh=>by
 by_cases h':k=h
 ·subst h';exact e
 ·exact lt_trans'B (List.pairwise_iff_getElem.1 hl k h hk hh (by omega)) e
theorem search_no {l:List ByteArray} (hl:AscB l) {s:ByteArray} {h:Nat} (hh:h < l.length) (e:¬ cmpS l[h] s < 0):∀ k (hk:k < l.length),h≤k→¬ cmpS l[k] s < 0:=fun k hk hkh e'=>by
 by_cases h':k=h
 ·subst h';exact e e'
 ·exact e (lt_trans'B (List.pairwise_iff_getElem.1 hl h k hh hk (by omega)) e')
def SearchR (l:List ByteArray) (s:ByteArray) (e:Ending):Prop:=∃ (k:Nat) (b:Bool),e=.returned (.tuple #[.int .i64 k,.bool b])∧k≤l.length∧(b=true→placeB l s=k)∧(b=false→placeB l s = -1)
set_option maxRecDepth 100000 in
set_option maxHeartbeats 4000000 in
theorem str_Search (va:Value) (l:List ByteArray) (s:ByteArray) (w:World) (ha:SlA w 1 va l.length (strs l)) (hl:AscB l) (hn:l.length≤100000) :
  Calls Tryz.prog 207 #[va,.string s] w fun e w'=>SearchR l s e∧w'=w:=by
 have HA:=Lib.hid ha
 have HL:=Lib.hid hl
 have LS:=Lib.hid (fun x W=>cmp_LessS x s W)
 have NN:=Lib.hid (fun x W=>sl_isNaNs x W)
 obtain ⟨ao,cap,rfl⟩:=ha.form
 clear ha hl
 go_enter Tryz.func207,Tryz.ntmps207
 go_wp2_with fail
 go_loop [7,8] (fun iv jv => ∃ i j:Nat,i≤j∧j≤l.length∧iv=.int .i64 i∧jv=.int .i64 j∧Hid (∀ k (hk:k < l.length),k < i→cmpS l[k] s < 0)∧Hid (∀ k (hk:k < l.length),j≤k→0≤cmpS l[k] s)) (fun iv jv=>(intOf jv).toNat - (intOf iv).toNat)
 case atStart=>exact ⟨0,l.length,by omega,Nat.le_refl _,rfl,rfl,Lib.hid (fun _ _ h=>absurd h (by omega)),Lib.hid (fun k hk h=>absurd hk (by omega))⟩
 case round =>
  obtain ⟨i,j,hij,hj,rfl,rfl,H1,H2⟩:=hrel
  by_cases hlt:i < j
  ·have e1:IntKind.i64.wrap ((i:Int)+j)=i+j:=Go.IntWalk.i64_in _ (by omega)
   have d:decide ((i:Int) < (j:Int))=true:=by rw [decide_eq_true_iff];omega
   have hil:(i+j) / 2 < l.length:=by omega
   obtain ⟨b1,o1,c1,he1,hc1,hm1,hb1,hx1⟩:=HA.out.pos (by omega)
   simp only [Value.slice.injEq,true_and] at he1
   obtain ⟨rfl,rfl⟩:=he1
   have p0:=hx1 ((i+j) / 2) _ (strs_get hil)
   have e3:IntKind.i64.wrap (((i:Int)+j) / 2+1)=((i:Int)+j) / 2+1:=Go.IntWalk.i64_in _ (by omega)
   have SY:=Lib.hid (fun e=>search_yes HL.out (s:=s) hil e)
   have SN:=Lib.hid (fun (e:0≤cmpS l[(i+j) / 2] s) k hk h=>Int.not_lt.1 (search_no HL.out (s:=s) hil (Int.not_lt.2 e) k hk h))
   clear hx1
   generalize l[(i+j) / 2]=x at p0 SY SN
   go_wp2_with fail
   refine (LS.out _ _).mono ?_
   rintro e w1 ⟨rfl,rfl⟩
   by_cases hc:cmpS x s < 0
   ·have dc:decide (cmpS x s < 0)=true:=decide_eq_true hc
    have H3:=Lib.hid (SY.out hc)
    rw [dc]
    clear hc SY SN
    go_wp2
    exact ⟨⟨(i+j) / 2+1,j,by omega,hj,congrArg (Value.int .i64) (by omega),rfl,H3,H2⟩,by simp [intOf];omega⟩
   ·have dc:decide (cmpS x s < 0)=false:=decide_eq_false hc
    have H3:=Lib.hid (SN.out (Int.not_lt.1 hc))
    rw [dc]
    clear hc SY SN
    go_wp2
    exact ⟨⟨i,(i+j) / 2,by omega,by omega,rfl,congrArg (Value.int .i64) (by omega),H1,H3⟩,by simp [intOf];omega⟩
  ·obtain rfl:i=j:=by omega
   have d:decide ((i:Int) < (i:Int))=false:=by rw [decide_eq_false_iff_not];omega
   by_cases hil:i < l.length
   ·obtain ⟨b1,o1,c1,he1,hc1,hm1,hb1,hx1⟩:=HA.out.pos (by omega)
    simp only [Value.slice.injEq,true_and] at he1
    obtain ⟨rfl,rfl⟩:=he1
    have p0:=hx1 i _ (strs_get hil)
    have d2:decide ((i:Int) < (l.length:Int))=true:=by rw [decide_eq_true_iff];omega
    clear hx1
    by_cases he:l[i]=s
    ·have R:=Lib.hid (place_asc HL.out hil he)
     rw [he] at p0
     clear he
     go_wp2
     refine bodyPost_ret (v:=.tuple #[.int .i64 i,.bool true]) (by simp [results,Tryz.results207,go_sem]) rfl ⟨⟨i,true,rfl,hj,fun _=>R.out,(fun h=>by cases h)⟩,rfl⟩
    ·have R:=Lib.hid (place_gap HL.out H1.out (fun k hk h=>Int.not_lt.2 (H2.out k hk h)) (fun _=>he) HL.out)
     have hne:=beq_str l[i] s
     rw [decide_eq_false he] at hne
     clear he
     generalize l[i]=x at p0 hne
     go_wp2_with fail
     refine (NN.out _ _).mono ?_
     rintro e w1 ⟨rfl,rfl⟩
     go_wp2
     refine bodyPost_ret (v:=.tuple #[.int .i64 i,.bool false]) (by simp [results,Tryz.results207,go_sem]) rfl ⟨⟨i,false,rfl,hj,(fun h=>by cases h),fun _=>R.out⟩,rfl⟩
   ·have R:=Lib.hid (place_gap HL.out H1.out (fun k hk h=>Int.not_lt.2 (H2.out k hk h)) (fun h=>absurd h hil) HL.out)
    have d2:decide ((i:Int) < (l.length:Int))=false:=by rw [decide_eq_false_iff_not];omega
    go_wp2
    refine bodyPost_ret (v:=.tuple #[.int .i64 i,.bool false]) (by simp [results,Tryz.results207,go_sem]) rfl ⟨⟨i,false,rfl,hj,(fun h=>by cases h),fun _=>R.out⟩,rfl⟩
set_option maxRecDepth 100000 in
set_option maxHeartbeats 1000000 in
theorem tab_Find (b:Nat) (l:List ByteArray) (s:ByteArray) (w:World) (h:TabAt w b l) (hl:AscB l) (hn:l.length≤100000) :
  Calls Tryz.prog 139 #[.pointer (some ⟨b,0,none⟩),.string s] w fun e w'=>e=.returned (.int .i64 (placeB l s))∧w'=w:=by
 obtain ⟨v,h1,h2,h3⟩:=h
 have BS:=Lib.hid (str_Search v l s w h2.a hl hn)
 obtain ⟨a,c,rfl⟩:=h2.form
 clear h2
 go_enter Tryz.func139,Tryz.ntmps139
 go_wp2_with fail
 refine BS.out.mono ?_
 rintro e w1 ⟨⟨k,r,rfl,hk,hy,hno⟩,rfl⟩
 cases r with
 | true =>
  have R:=Lib.hid (hy rfl)
  clear hy hno BS
  go_wp2
  go_ret
  exact ⟨by rw [R.out];rfl,rfl⟩
 | false =>
  have R:=Lib.hid (hno rfl)
  clear hy hno BS
  go_wp2
  go_ret
  exact ⟨by rw [R.out];rfl,rfl⟩
end
section
open Go.RowKit Go.Shelf

def nthOp:List Oper→Nat→Option Oper
 | [],_=>none
 | o :: _,0=>some o
 | _ :: r,n+1=>nthOp r n
theorem nthOp_get:∀ (l:List Oper) (i:Nat),l.toArray[i]? = nthOp l i
 | [],i=>by simp [nthOp]
 | o :: r,0=>by simp [nthOp]
 | o :: r,n+1=>by have:=nthOp_get r n;simpa [nthOp] using this

theorem held_yes {P:Program} {md:Region.Mode} {S:World→Prop} {Q:Exit→Act→World→Prop} {fuel:Nat} {listed:Array Bool} {a:Act} {w:World} {v:Value} {oi:Oper} {l:List Oper} (i:Nat) (hi:nthOp l i=some oi)
  (hs:Region.noSelect l.toArray=true) (hf:Region.free md l.toArray listed i=true) (hr:(Region.ready md l.toArray listed).contains i=true)
  (hQ:∀ c a w,Q (.panic c) (a.put oi.dst v) w→Q (.panic c) a w) (hw:Region.wanted oi (yielded l.toArray a.tmps)=true) (hS:S w) (hy:∀ w,S w→(execOp a.eval oi).run P w=.ok (.value v) w)
  (h:wpAnyH P md l.toArray Q S fuel (listed.setIfInBounds i true) (a.put oi.dst v) w):wpAnyH P md l.toArray Q S (fuel+1) listed a w :=
 wpAnyH_take (by rw [nthOp_get];exact hi) hs hf hr hQ (Or.inl ⟨hw,hy⟩) hS h

theorem held_no {P:Program} {md:Region.Mode} {S:World→Prop} {Q:Exit→Act→World→Prop} {fuel:Nat} {listed:Array Bool} {a:Act} {w:World} {oi:Oper} {l:List Oper} (i:Nat) (hi:nthOp l i=some oi)
  (hs:Region.noSelect l.toArray=true) (hf:Region.free md l.toArray listed i=true) (hr:(Region.ready md l.toArray listed).contains i=true)
  (hQ:∀ c a w,Q (.panic c) (a.put oi.dst undef) w→Q (.panic c) a w) (hw:Region.wanted oi (yielded l.toArray a.tmps)=false) (hS:S w)
  (h:wpAnyH P md l.toArray Q S fuel (listed.setIfInBounds i true) (a.put oi.dst undef) w):wpAnyH P md l.toArray Q S (fuel+1) listed a w :=
 wpAnyH_take (by rw [nthOp_get];exact hi) hs hf hr hQ (Or.inr ⟨hw,rfl⟩) hS h

theorem held_call {P:Program} {md:Region.Mode} {S:World→Prop} {Q:Exit→Act→World→Prop} {fuel:Nat} {listed:Array Bool} {a:Act} {w:World} {oi:Oper} {l:List Oper} (i:Nat) (hi:nthOp l i=some oi)
  (hr:Region.ready md l.toArray listed=[i])
  (h:∀ K':Act→World→Prop,Shut (∀ a w,S w→(S w→wpAnyH P md l.toArray Q S fuel (listed.setIfInBounds i true) a w)→K' a w)→if Region.wanted oi (yielded l.toArray a.tmps)=true then Oper.wp P oi a w K' Q else K' (a.put oi.dst undef) w) :
  wpAnyH P md l.toArray Q S (fuel+1) listed a w :=
 wpAnyH_ready hr (by simp) (AllReadyH.cons (by rw [nthOp_get];exact hi) h AllReadyH.nil)
theorem hyes {P:Program} {md:Region.Mode} {S:World→Prop} {Q:Exit→Act→World→Prop} {fuel:Nat} {listed:Array Bool} {a a':Act} {w:World} {v:Value} {oi:Oper} {l:List Oper} (i:Nat)
  (h:wpAnyH P md l.toArray Q S fuel (listed.setIfInBounds i true) a' w) (hi:nthOp l i=some oi:=by rfl) (hy:∀ w,S w→(execOp a.eval oi).run P w=.ok (.value v) w:=by (intro w hSw;(try dsimp only at hSw);go_simp;(try with_reducible rfl)))
  (ha:a.put oi.dst v=a':=by (simp only [Act.put,List.setIfInBounds_toArray,List.set];exact rfl)) (hs:Region.noSelect l.toArray=true:=by kernel_rfl) (hf:Region.free md l.toArray listed i=true:=by kernel_rfl) (hr:(Region.ready md l.toArray listed).contains i=true:=by kernel_rfl)
  (hQ:∀ c a w,Q (.panic c) (a.put oi.dst v) w→Q (.panic c) a w:=by exact fun _ _ _ h=>h) (hw:Region.wanted oi (yielded l.toArray a.tmps)=true:=by rfl) (hS:S w:=by assumption):wpAnyH P md l.toArray Q S (fuel+1) listed a w:=by
 subst ha
 exact held_yes i hi hs hf hr hQ hw hS hy h
theorem hno {P:Program} {md:Region.Mode} {S:World→Prop} {Q:Exit→Act→World→Prop} {fuel:Nat} {listed:Array Bool} {a a':Act} {w:World} {oi:Oper} {l:List Oper} (i:Nat)
  (h:wpAnyH P md l.toArray Q S fuel (listed.setIfInBounds i true) a' w) (hi:nthOp l i=some oi:=by rfl)
  (ha:a.put oi.dst undef=a':=by (simp only [Act.put,List.setIfInBounds_toArray,List.set];exact rfl)) (hs:Region.noSelect l.toArray=true:=by kernel_rfl) (hf:Region.free md l.toArray listed i=true:=by kernel_rfl) (hr:(Region.ready md l.toArray listed).contains i=true:=by kernel_rfl)
  (hQ:∀ c a w,Q (.panic c) (a.put oi.dst undef) w→Q (.panic c) a w:=by exact fun _ _ _ h=>h) (hw:Region.wanted oi (yielded l.toArray a.tmps)=false:=by rfl) (hS:S w:=by assumption):wpAnyH P md l.toArray Q S (fuel+1) listed a w:=by
 subst ha
 exact held_no i hi hs hf hr hQ hw hS h
end
section
open Go.RowKit Go.Shelf

structure TblAt (w:World) (t ba bb:Nat) (a b:List ByteArray):Prop where
 c0:w.cell? ⟨t,0,none⟩=some (.pointer (some ⟨ba,0,none⟩))
 c1:w.cell? ⟨t,1,none⟩=some (.pointer (some ⟨bb,0,none⟩))
 lt:t < w.heap.size
 ta:TabAt w ba a
 tb:TabAt w bb b
 sa:AscB a
 sb:AscB b
 na:a.length≤10000
 nb:b.length≤10000
theorem TblAt.below {w w':World} {t ba bb:Nat} {a b:List ByteArray} (h:TblAt w t ba bb a b) (hb:Below w.heap.size w w'):TblAt w' t ba bb a b :=
 ⟨(hb.cell (p:=⟨t,0,none⟩) h.lt).trans h.c0,(hb.cell (p:=⟨t,1,none⟩) h.lt).trans h.c1,Nat.lt_of_lt_of_le h.lt hb.size,h.ta.below hb,h.tb.below hb,h.sa,h.sb,h.na,h.nb⟩
set_option maxRecDepth 100000 in
set_option maxHeartbeats 1000000 in
theorem table_New (va vb:Value) (l m:List ByteArray) (w:World) (ha:SlA w 1 va l.length (strs l)) (hb:SlA w 1 vb m.length (strs m)) (hl:l.length≤10000) (hm:m.length≤10000) :
  Calls Tryz.prog 197 #[va,vb] w fun e w' => ∃ t ba bb,e=.returned (.pointer (some ⟨t,0,none⟩))∧TblAt w' t ba bb (newB l) (newB m)∧Below w.heap.size w w':=by
 have N1:=Lib.hid (names_New va l w ha (by omega))
 have N2:=Lib.hid (fun W (h:Below w.heap.size w W)=>names_New vb m W (hb.below h) (by omega))
 obtain ⟨a0,c0,rfl⟩:=ha.form
 obtain ⟨a1,c1,rfl⟩:=hb.form
 clear ha hb
 go_enter Tryz.func197,Tryz.ntmps197
 go_wp2_with fail
 refine N1.out.mono ?_
 rintro e w1 ⟨b1,rfl,ht1,_,hb1⟩
 have HT1:=Lib.hid ht1
 have HB1:=Lib.hid hb1
 clear ht1 hb1
 go_wp2_with fail
 refine (N2.out _ HB1.out).mono ?_
 rintro e w2 ⟨b2,rfl,ht2,_,hb2⟩
 have HT2:=Lib.hid ht2
 have HT1:=Lib.hid (HT1.out.below hb2)
 have HB2:=Lib.hid (HB1.out.trans (hb2.mono HB1.out.size))
 clear ht2 hb2
 go_wp2
 go_ret
 have ha:Below w2.heap.size w2 (w2.alloc (.cells #[.pointer (some ⟨b1,0,none⟩),.pointer (some ⟨b2,0,none⟩)] 157)):=(Below.refl _ _).alloc (Nat.le_refl _) _
 exact ⟨w2.heap.size,b1,b2,rfl,⟨(Blk.new w2 _ _).1 0,(Blk.new w2 _ _).1 1,by simp,HT1.out.below ha,HT2.out.below ha,new_asc l,new_asc m,Nat.le_trans (new_len l) hl,Nat.le_trans (new_len m) hm⟩,HB2.out.alloc HB2.out.size _⟩
section
variable {t ba bb:Nat} {a b:List ByteArray} {w:World}
theorem table_Prins (h:TblAt w t ba bb a b):Calls Tryz.prog 53 #[.pointer (some ⟨t,0,none⟩)] w fun e w'=>e=.returned (.pointer (some ⟨ba,0,none⟩))∧w'=w:=by
 have h0:=h.c0
 have h1:=h.lt
 clear h
 go_enter Tryz.func53,Tryz.ntmps53
 go_wp2
 go_ret
 exact ⟨rfl,rfl⟩
theorem table_Links (h:TblAt w t ba bb a b):Calls Tryz.prog 56 #[.pointer (some ⟨t,0,none⟩)] w fun e w'=>e=.returned (.pointer (some ⟨bb,0,none⟩))∧w'=w:=by
 have h0:=h.c1
 have h1:=h.lt
 clear h
 go_enter Tryz.func56,Tryz.ntmps56
 go_wp2
 go_ret
 exact ⟨rfl,rfl⟩
end
set_option maxRecDepth 100000 in
set_option maxHeartbeats 4000000 in
theorem table_Role {t ba bb:Nat} {a b:List ByteArray} {w:World} (h:TblAt w t ba bb a b) (r:Rl) :
  Calls Tryz.prog 73 #[.pointer (some ⟨t,0,none⟩),rv r] w fun e w'=>e=.returned (.int .i64 (roleN a b r))∧Below w.heap.size w w':=by
 have HT:=Lib.hid h
 have P:=Lib.hid (fun W (hb:Below w.heap.size w W)=>table_Prins (h.below hb))
 have L:=Lib.hid (fun W (hb:Below w.heap.size w W)=>table_Links (h.below hb))
 have LB:=Lib.hid (fun W (hb:Below w.heap.size w W)=>tab_Len bb b W (h.tb.below hb))
 obtain ⟨r1,r2⟩:=r
 have F1:=Lib.hid (fun W (hb:Below w.heap.size w W)=>tab_Find ba a r1 W (h.ta.below hb) h.sa (by have:=h.na;omega))
 have F2:=Lib.hid (fun W (hb:Below w.heap.size w W)=>tab_Find bb b r2 W (h.tb.below hb) h.sb (by have:=h.nb;omega))
 have p1:=place_range a r1
 have p2:=place_range b r2
 have R:=Lib.hid (show roleN a b ⟨r1,r2⟩=if placeB a r1 < 0∨placeB b r2 < 0 then -1 else placeB a r1 * b.length+placeB b r2 from rfl)
 have na:=h.na
 have nb:=h.nb
 generalize roleN a b ⟨r1,r2⟩=res at R ⊢
 generalize placeB a r1=x at F1 p1 R
 generalize placeB b r2=y at F2 p2 R
 have T0:=Lib.hid (show OneAt w #[.string r1,.string r2] (w.alloc (.cells #[.string r1,.string r2] 28)) from ⟨Blk.new w _ _,(Below.refl _ _).alloc (Nat.le_refl _) _⟩)
 clear h
 go_enter Tryz.func73,Tryz.ntmps73
 go_wp2_with fail
 refine (P.out _ T0.out.low).mono ?_
 rintro e w1 ⟨rfl,rfl⟩
 go_wp2_with fail
 refine (L.out _ T0.out.low).mono ?_
 rintro e w1 ⟨rfl,rfl⟩
 go_wp2_with fail
 refine wp_region_held_drew (S:=(fun W => ∀ o,W.cell? ⟨w.heap.size,o,none⟩=(#[.string r1,.string r2]:Array Value)[o]?)) (by kernel_rfl) T0.out.drew.a.1 (fun hHeld=>?_)
 have HT:=T0.out.drew
 (refine hyes 0 ?_);(refine hyes 1 ?_);(refine hyes 2 ?_);(refine hyes 4 ?_);(refine hyes 5 ?_);(refine hyes 6 ?_);(try simp only [Act.put,List.setIfInBounds_toArray,List.set])
 (refine held_call 3 rfl (by kernel_rfl) (fun K hK=>?_);go_simp)
 go_at_call 139;refine (F1.out _ HT.low).mono ?_;rintro e wq ⟨rfl,rfl⟩
 (refine hK.out _ _ (HT.a.1) (fun hHeld=>?_);clear hK K;(try simp only [Act.put,List.setIfInBounds_toArray,List.set]))
 (refine held_call 7 rfl (by kernel_rfl) (fun K hK=>?_);go_simp)
 go_at_call 139;refine (F2.out _ HT.low).mono ?_;rintro e wq ⟨rfl,rfl⟩
 (refine hK.out _ _ (HT.a.1) (fun hHeld=>?_);clear hK K;(try simp only [Act.put,List.setIfInBounds_toArray,List.set]))
 (refine hyes 8 ?_);(refine hyes 9 ?_);(try simp only [Act.put,List.setIfInBounds_toArray,List.set])
 refine wpAnyH_done (by kernel_rfl) ?_ _
 have HT:=Lib.hid HT
 by_cases hx:x < 0
 ·have d:decide (x < 0)=true:=decide_eq_true hx
  have R2:=Lib.hid (R.out.trans (if_pos (.inl hx)))
  clear hx
  go_wp2
  go_ret
  exact ⟨by rw [R2.out];rfl,HT.out.low⟩
 ·have d:decide (x < 0)=false:=decide_eq_false hx
  by_cases hy:y < 0
  ·have d2:decide (y < 0)=true:=decide_eq_true hy
   have R2:=Lib.hid (R.out.trans (if_pos (.inr hy)))
   clear hx hy
   go_wp2
   go_ret
   exact ⟨by rw [R2.out];rfl,HT.out.low⟩
  ·have d2:decide (y < 0)=false:=decide_eq_false hy
   have R2:=Lib.hid (R.out.trans (if_neg (fun h=>h.elim hx hy)))
   obtain ⟨n,rfl⟩:=Int.eq_ofNat_of_zero_le (by omega:0≤x)
   obtain ⟨m,rfl⟩:=Int.eq_ofNat_of_zero_le (by omega:0≤y)
   have hmul:n * b.length≤10000 * 10000:=Nat.mul_le_mul (by omega) nb
   have e1:IntKind.i64.wrap ((n:Int) * b.length)=(n:Int) * b.length:=Go.IntWalk.i64_in _ (by rw [← Int.natCast_mul];omega)
   have e2:IntKind.i64.wrap ((n:Int) * b.length+m)=(n:Int) * b.length+m:=Go.IntWalk.i64_in _ (by rw [← Int.natCast_mul];omega)
   clear hx hy
   go_wp2_with fail
   refine (L.out _ HT.out.low).mono ?_
   rintro e w2 ⟨rfl,rfl⟩
   go_wp2_with fail
   refine (LB.out _ HT.out.low).mono ?_
   rintro e w2 ⟨rfl,rfl⟩
   go_wp2
   go_ret
   exact ⟨by rw [R2.out];rfl,HT.out.low⟩
end
section
open Go.RowKit Go.Shelf

theorem cell_far (w:World) (g g' o o':Nat) (v:Value) (h:¬ g=g'):(w.setCell ⟨g,o,none⟩ v).cell? ⟨g',o',none⟩=w.cell? ⟨g',o',none⟩ :=
 World.cell?_setCell_other w ⟨g,o,none⟩ ⟨g',o',none⟩ v (fun e=>h (by injection e))
theorem Blk.far {w:World} {g g' o:Nat} {cs:Array Value} {v:Value} (h:Blk w g' cs) (hne:¬ g=g'):Blk (w.setCell ⟨g,o,none⟩ v) g' cs :=
 ⟨fun o'=>(cell_far w g g' o o' v hne).trans (h.1 o'),fun o'=>by simpa using h.2.1 o',by simpa using h.2.2⟩
theorem Blk.put {w:World} {g o:Nat} {cs:Array Value} {v:Value} (h:Blk w g cs) (ho:o < cs.size):Blk (w.setCell ⟨g,o,none⟩ v) g (cs.setIfInBounds o v):=by
 refine ⟨fun i=>?_,fun i=>by simpa using h.2.1 i,by simpa using h.2.2⟩
 by_cases e:i=o
 ·subst e
  rw [World.cell?_setCell_same (u:=cs[i]) _ _ _ (by rw [h.1 i];exact Array.getElem?_eq_getElem ho)]
  simp [ho]
 ·rw [set_far _ _ _ _ _ e,h.1 i,Array.getElem?_setIfInBounds,if_neg (fun h=>e h.symm)]
theorem below_put {n g o:Nat} {w w':World} {v:Value} (h:Below n w w') (hg:n≤g):Below n w (w'.setCell ⟨g,o,none⟩ v) :=
 ⟨h.os,h.tape,h.output,by simpa [World.setCell] using h.size,fun k hk=>(Below.heap_setCell _ _ _ _ (by dsimp only;omega)).trans (h.block k hk)⟩
def puts (w:World) (g:Nat):Nat→List Value→World
 | _,[]=>w
 | o,v :: vs=>puts (w.setCell ⟨g,o,none⟩ v) g (o+1) vs
theorem below_puts {n g:Nat} {w0:World} (hg:n≤g):∀ (vs:List Value) (o:Nat) (w:World),Below n w0 w→Below n w0 (puts w g o vs)
 | [],_,_,h=>h
 | _ :: vs,o,_,h=>below_puts hg vs (o+1) _ (below_put h hg)
theorem Blk.puts_far {g g':Nat} {cs:Array Value} (hne:¬ g=g'):∀ (vs:List Value) (o:Nat) (w:World),Blk w g' cs→Blk (puts w g o vs) g' cs
 | [],_,_,h=>h
 | _ :: vs,o,_,h=>Blk.puts_far hne vs (o+1) _ (h.far hne)
end
section
open Go.RowKit Go.Shelf

theorem atB_get {l:List ByteArray} {k:Nat} (h:k < l.length):atB l (k:Int)=l[k]:=by unfold atB;rw [dif_pos (by simp;omega)];rfl
theorem roleAt_yes {a b:List ByteArray} {k:Nat} (h:k < a.length * b.length):roleAt a b (k:Int)=⟨atB a ((k / b.length:Nat):Int),atB b ((k % b.length:Nat):Int)⟩:=by
 have h1:k / b.length < a.length:=Nat.div_lt_of_lt_mul (by rw [Nat.mul_comm];exact h)
 have h2:k % b.length < b.length:=Nat.mod_lt _ (Nat.pos_of_ne_zero (fun e=>by rw [e] at h;omega))
 rw [atB_get h1,atB_get h2]
 unfold roleAt
 rw [dif_pos ⟨by omega,by simpa using h⟩]
 rfl
end
section
open Go.RowKit Go.Shelf

def eqRu (x y:Ru):Bool:=decide (x=y)
set_option maxRecDepth 100000 in
set_option maxHeartbeats 4000000 in
theorem rule_equalIn (d:Nat) (k h u a b v k' h' u' a' b' v':Int) (w:World):(Op.equalIn (d+2) 151 (.agg #[.int .i64 k,.int .i64 h,.int .i64 u,.int .i64 a,.int .i64 b,.int .i64 v]) (.agg #[.int .i64 k',.int .i64 h',.int .i64 u',.int .i64 a',.int .i64 b',.int .i64 v'])).run Tryz.prog w=.ok (eqRu ⟨k,h,u,a,b,v⟩ ⟨k',h',u',a',b',v'⟩) w:=by
 have hS:Tryz.prog.underlying 151=some (.struct (Tryz.prog.fieldsOf 151)):=by kernel_rfl
 have hp:Tryz.prog.stoodInHeld 151=false:=by kernel_rfl
 rw [run_equalIn_agg w (d+1) 151 _ _ hS hp]
 simp only [Program.fieldsOf,Tryz.underlying151]
 go_simp
 simp only [eqRu,Ru.mk.injEq]
 by_cases e1:k=k' <;> by_cases e2:h=h' <;> by_cases e3:u=u' <;> by_cases e4:a=a' <;> by_cases e5:b=b' <;> by_cases e6:v=v' <;> simp [e1,e2,e3,e4,e5,e6]
theorem rule_eql (k h u a b v k' h' u' a' b' v':Int) (w:World):(binOp .eql 151 (.agg #[.int .i64 k,.int .i64 h,.int .i64 u,.int .i64 a,.int .i64 b,.int .i64 v]) (.agg #[.int .i64 k',.int .i64 h',.int .i64 u',.int .i64 a',.int .i64 b',.int .i64 v'])).run Tryz.prog w=.ok (.bool (eqRu ⟨k,h,u,a,b,v⟩ ⟨k',h',u',a',b',v'⟩)) w:=by
 rw [run_eql_struct,show (10000:Nat)=9998+2 from rfl,rule_equalIn 9998]
 rfl
theorem roleAt_ij {a b:List ByteArray} {i j:Nat} (hi:i < a.length) (hj:j < b.length):roleAt a b ((i:Int) * (b.length:Int)+(j:Int))=⟨a[i],b[j]⟩:=by
 have h:i * b.length+j < a.length * b.length:=by
  have:i * b.length+b.length≤a.length * b.length:=by rw [← Nat.succ_mul];exact Nat.mul_le_mul_right _ hi
  omega
 have e:((i:Int) * (b.length:Int)+(j:Int))=((i * b.length+j:Nat):Int):=by rw [Int.natCast_add,Int.natCast_mul]
 have h0:0 < b.length:=by omega
 have e1:(i * b.length+j) / b.length=i:=by rw [Nat.add_comm,Nat.add_mul_div_right _ _ h0,Nat.div_eq_of_lt hj,Nat.zero_add]
 have e2:(i * b.length+j) % b.length=j:=by rw [Nat.add_comm,Nat.add_mul_mod_self_right,Nat.mod_eq_of_lt hj]
 rw [e,roleAt_yes h,e1,e2,atB_get hi,atB_get hj]
end
section
open Go.RowKit Go.Shelf

structure TwoAt (w:World) (A B:Array Value) (wx:World):Prop where
 a:Blk wx w.heap.size A
 b:Blk wx (w.heap.size+1) B
 low:Below w.heap.size w wx
theorem TwoAt.later {w wx w':World} {A B:Array Value} (h:TwoAt w A B wx) (hb:Below wx.heap.size wx w'):TwoAt w A B w':=⟨h.a.below hb,h.b.below hb,h.low.trans (hb.mono h.low.size)⟩
theorem TwoAt.alloc {w wx:World} {A B:Array Value} (h:TwoAt w A B wx) (o:Obj):TwoAt w A B (wx.alloc o):=h.later ((Below.refl _ _).alloc (Nat.le_refl _) o)
theorem TwoAt.drew {w wx:World} {A B:Array Value} (h:TwoAt w A B wx):TwoAt w A B wx.drew:=h.later (below_drew (Below.refl _ _))
end
end Go.Proofs.YtilgbodgmkmjjaaGreatDoor
