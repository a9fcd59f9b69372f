/- Parts: PolRefG PolRefH PolRefW -/
import Derived.Test.YtomhekohcadijaaGreatDoorPart17
import Derived.Test.YtomhekohcadijaaGreatDoorPart18
namespace Go.Proofs.YtomhekohcadijaaGreatDoor
section
open Go.RowKit Go.Shelf

set_option maxRecDepth 100000 in
set_option maxHeartbeats 2000000 in
theorem ref5_line_grow (s:ByteArray) (v0 v1 v2 v3:Value) (p:Pd) (zs:List (Qd × Value)) (w:World) (hp:PolD w v0 v1 v2 v3 p zs) (hs:s.size≤1000000) (hl0:p.l.length≤100) (hl1:p.g.length≤100) (hl2:p.h.length≤100) (hl3:p.q.length≤100) (l:List Tok) (ti:Int) (ht:tokens (bl s)=(l,ti,0)) (h0:0 < l.length) (t1:¬ (txQ l 0=wAlways∨txQ l 0=wCan)) (t3:txQ l 0=wGrow) :
  Calls Tryz.prog 70 #[pv v0 v1 v2 v3,.string s] w fun e w'=>LineR (lineP p s) w e w':=by
 have HL0:=Lib.hid hl0
 have HL1:=Lib.hid hl1
 have HL2:=Lib.hid hl2
 have HL3:=Lib.hid (show zs.length≤100 by rw [← hp.z,List.length_map] at hl3;exact hl3)
 have HPD:=Lib.hid hp
 obtain ⟨a0,c0,rfl⟩:=hp.rs.form
 obtain ⟨a1,c1,rfl⟩:=hp.rg.form
 obtain ⟨a2,c2,rfl⟩:=hp.rh.form
 obtain ⟨a3,c3,rfl⟩:=hp.rq.form
 have HT:=Lib.hid (TwoAt.new w #[.slice a0 p.l.length c0,.slice a1 p.g.length c1,.slice a2 p.h.length c2,.slice a3 zs.length c3] #[nilV,nilV,nilV,nilV] 26 26)
 have TK:=Lib.hid (fun W=>ref2_Tokens_any s W (by omega))
 have E:=Lib.hid (show lineP p s=lineT p s (tokens (bl s)) from rfl)
 generalize lineP p s=res at E ⊢
 clear hp hl0 hl1 hl2 hl3
 rw [ht] at E TK
 clear ht
 go_enter Tryz.func70,Tryz.ntmps70
 go_wp2_with fail
 refine (TK.out _).mono ?_
 rintro e w1 ⟨va,rfl,hown1,hb1⟩
 dsimp only at hown1
 obtain ⟨sa,sc,rfl⟩:=own_form hown1
 have HS1:=Lib.hid (Sl.of_own hown1)
 have HT:=Lib.hid (HT.out.later hb1)
 have HTB:=Lib.hid (fun (b off:Nat) (h:sa=some ⟨b,off,none⟩)=>show ¬ b=w.heap.size+1∧¬ b=w.heap.size by
  have:=(hown1.lt b (by rw [h];rfl)).1
  simp at this
  omega)
 clear hown1 hb1 TK
 have HMX:=Lib.hid HS1.out.max
 have dl:((l.length:Int) == 0)=false:=by rw [beq_eq_false_iff_ne];omega
 obtain ⟨tb,off,cap,he1,hc1,hm1,hb1,hx1⟩:=HS1.out.pos (by omega)
 simp only [Value.slice.injEq,true_and] at he1
 obtain ⟨rfl,rfl⟩:=he1
 obtain ⟨hbg1,hbg0⟩:=HTB.out tb off rfl
 have HX1:=Lib.hid hx1
 obtain ⟨_,p1,_⟩:=tok_cells hx1 0 h0
 have TX:=Lib.hid (show (⟨l[0].text.toArray⟩:ByteArray)=txQ l 0 from (txQ_at h0).symm)
 rw [TX.out] at p1
 simp only [Nat.zero_mul,Nat.add_zero] at p1
 clear hx1 TX
 have e1:((txQ l 0).toList == [97,108,119,97,121,115])=false:=tx_ne (fun h=>t1 (.inl h))
 have e2:((txQ l 0).toList == [99,97,110])=false:=tx_ne (fun h=>t1 (.inr h))
 have e3:((txQ l 0).toList == [103,114,111,119])=true:=tx_eq t3
 have e3n:((txQ l 0).toList != [103,114,111,119])=false:=tx_nf t3
 have A1:=Lib.hid t1
 have A3:=Lib.hid t3
 clear t1 t3
 have E:=Lib.hid (E.out.trans (lineT_growL (p:=p) (s:=s) (i:=ti) h0 A1.out A3.out))
 have EN:=Lib.hid (fun W=>ref3_End s W (by omega))
 have EE:endOf' s=endOf s:=rfl
 rw [EE] at EN
 clear EE
 have RES:=Lib.hid (fun c (h:boundG [2,1,3,2] l=some c)=>boundT_some (e:=endOf s) h)
 have RES2:=Lib.hid (fun (h:boundG [2,1,3,2] l=none) (h4:l.length < 4)=>boundT_few (e:=endOf s) h h4)
 have RES3:=Lib.hid (fun (h:boundG [2,1,3,2] l=none) (h4:¬ l.length < 4)=>boundT_yes (e:=endOf s) h h4)
 generalize endOf s=en at *
 generalize boundT l en=bt at E RES RES2 RES3
 go_wp2_with fail
 go_loopw [17] (fun i wr => ∃ k:Nat,k≤l.length∧k≤4∧i=.int .i64 k∧Hid (TwoAt w #[.slice a0 p.l.length c0,.slice a1 p.g.length c1,.slice a2 p.h.length c2,.slice a3 zs.length c3] #[nilV,nilV,nilV,nilV] wr)∧Hid (Below w1.heap.size w1 wr)∧Hid (boundG [2,1,3,2] l=boundG (([2,1,3,2]:List Int).drop k) (l.drop k))) (fun i _=>l.length - (intOf i).toNat)
 case atStart=>exact ⟨0,by omega,by omega,rfl,HT,Lib.hid (Below.refl _ _),Lib.hid rfl⟩
 case round =>
  obtain ⟨k,hk,hk4,rfl,TR,HBW,HB⟩:=hrel
  have hmx:=HMX.out
  by_cases hlt:k < l.length
  ·obtain ⟨p0,_,p2⟩:=tok_cells (w:=wr) (Sl.cells_later HBW.out hb1 HX1.out) k hlt
   have hbr:tb < wr.heap.size:=Nat.lt_of_lt_of_le hb1 HBW.out.size
   have d1:decide ((k:Int) < (l.length:Int))=true:=by (rw [decide_eq_true_iff];omega)
   by_cases h4:k < 4
   ·have d2:decide ((k:Int) < 4)=true:=by (rw [decide_eq_true_iff];omega)
    by_cases he:l[k].kind=want4 k
    ·have HN:=Lib.hid (HB.out.trans (bound_go hlt h4 he))
     have d3:(l[k].kind == want4 k)=true:=by rw [he];simp
     clear he
     go_wp2_with fail
     refine wp_region_held_drew (S:=fun W=>W.cell? ⟨tb,off+k * 3,none⟩=some (.int .i64 l[k].kind)) (by kernel_rfl) p0 (fun hHeld=>?_)
     obtain ⟨W4,hW4⟩:∃ X,X=wr.drew:=⟨_,rfl⟩
     have hb4:Below wr.heap.size wr W4:=by rw [hW4];exact below_drew (Below.refl _ _)
     rw [← hW4] at hHeld ⊢
     clear hW4
     (refine hyes 0 ?_);(refine hyes 1 ?_);(refine hyes 2 ?_);(refine hyes 3 ?_);(refine hyes 4 ?_);(refine hyes 5 ?_);(refine hyes 6 ?_);(refine hyes 7 ?_);(refine hyes 8 ?_);(refine hyes 9 ?_);(refine hyes 10 ?_);(refine hyes 11 ?_);(refine hyes 12 ?_);(refine hyes 13 ?_);(refine hyes 15 ?_);(try simp only [Act.put,List.setIfInBounds_toArray,List.set])
     (refine held_call 14 rfl (by kernel_rfl) (fun K hK=>?_);go_simp)
     obtain ⟨W5,hW5⟩:∃ X,X=W4.alloc (.cells #[.int .i64 2,.int .i64 1,.int .i64 3,.int .i64 2] 3):=⟨_,rfl⟩
     obtain ⟨bn,hbn⟩:∃ b,b=W4.heap.size:=⟨_,rfl⟩
     rw [← hW5,← hbn]
     have hb5:Below wr.heap.size wr W5:=by rw [hW5];exact hb4.alloc hb4.size _
     have hq:W5.cell? ⟨bn,k,none⟩=some (.int .i64 (want4 k)):=by
      rw [hW5,hbn];exact ((Blk.new W4 #[.int .i64 2,.int .i64 1,.int .i64 3,.int .i64 2] 3).1 k).trans (want_get h4)
     have hS5:W5.cell? ⟨tb,off+k * 3,none⟩=some (.int .i64 l[k].kind):=(hb5.cell (p:=⟨tb,_,none⟩) hbr).trans p0
     have HB5:=Lib.hid hb5
     have hk4i:(k:Int) < 4:=by omega
     clear hW5 hbn hb4 hb5
     (refine hK.out _ _ hS5 (fun hHeld=>?_);clear hK K;(try simp only [Act.put,List.setIfInBounds_toArray,List.set]))
     (refine hnow 16 ?_);(refine hnow 17 ?_);(refine hnow 18 ?_);(refine hnow 19 ?_);(try simp only [Act.put,List.setIfInBounds_toArray,List.set])
     refine wpAnyH_done (by kernel_rfl) ?_ _
     have TR5:=Lib.hid (TR.out.later HB5.out)
     have HBW5:=Lib.hid (HBW.out.trans (HB5.out.mono HBW.out.size))
     clear hS5 hq hHeld p0
     go_wp2
     exact ⟨⟨k+1,by omega,by omega,by go_num,TR5,HBW5,HN⟩,by simp [intOf];omega⟩
    ·have BT:=Lib.hid (RES.out _ (HB.out.trans (bound_no hlt h4 he)))
     have d3:(l[k].kind == want4 k)=false:=by simp [he]
     clear he
     go_wp2_with fail
     refine wp_region_held_drew (S:=fun W=>W.cell? ⟨tb,off+k * 3,none⟩=some (.int .i64 l[k].kind)) (by kernel_rfl) p0 (fun hHeld=>?_)
     obtain ⟨W4,hW4⟩:∃ X,X=wr.drew:=⟨_,rfl⟩
     have hb4:Below wr.heap.size wr W4:=by rw [hW4];exact below_drew (Below.refl _ _)
     rw [← hW4] at hHeld ⊢
     clear hW4
     (refine hyes 0 ?_);(refine hyes 1 ?_);(refine hyes 2 ?_);(refine hyes 3 ?_);(refine hyes 4 ?_);(refine hyes 5 ?_);(refine hyes 6 ?_);(refine hyes 7 ?_);(refine hyes 8 ?_);(refine hyes 9 ?_);(refine hyes 10 ?_);(refine hyes 11 ?_);(refine hyes 12 ?_);(refine hyes 13 ?_);(refine hyes 15 ?_);(try simp only [Act.put,List.setIfInBounds_toArray,List.set])
     (refine held_call 14 rfl (by kernel_rfl) (fun K hK=>?_);go_simp)
     obtain ⟨W5,hW5⟩:∃ X,X=W4.alloc (.cells #[.int .i64 2,.int .i64 1,.int .i64 3,.int .i64 2] 3):=⟨_,rfl⟩
     obtain ⟨bn,hbn⟩:∃ b,b=W4.heap.size:=⟨_,rfl⟩
     rw [← hW5,← hbn]
     have hb5:Below wr.heap.size wr W5:=by rw [hW5];exact hb4.alloc hb4.size _
     have hq:W5.cell? ⟨bn,k,none⟩=some (.int .i64 (want4 k)):=by
      rw [hW5,hbn];exact ((Blk.new W4 #[.int .i64 2,.int .i64 1,.int .i64 3,.int .i64 2] 3).1 k).trans (want_get h4)
     have hS5:W5.cell? ⟨tb,off+k * 3,none⟩=some (.int .i64 l[k].kind):=(hb5.cell (p:=⟨tb,_,none⟩) hbr).trans p0
     have HB5:=Lib.hid hb5
     have hk4i:(k:Int) < 4:=by omega
     clear hW5 hbn hb4 hb5
     (refine hK.out _ _ hS5 (fun hHeld=>?_);clear hK K;(try simp only [Act.put,List.setIfInBounds_toArray,List.set]))
     (refine hnow 16 ?_);(refine hnow 17 ?_);(refine hnow 18 ?_);(refine hnow 19 ?_);(try simp only [Act.put,List.setIfInBounds_toArray,List.set])
     refine wpAnyH_done (by kernel_rfl) ?_ _
     have TR5:=Lib.hid (TR.out.later HB5.out)
     have HBW5:=Lib.hid (HBW.out.trans (HB5.out.mono HBW.out.size))
     clear hS5 hq hHeld p0
     obtain ⟨ca,fa,za⟩:=TR5.out.a
     obtain ⟨cb,fb,zb⟩:=TR5.out.b
     have hlow:=TR5.out.low
     have p2:=(HB5.out.cell (p:=⟨tb,_,none⟩) hbr).trans p2
     have hbr:=Nat.lt_of_lt_of_le hbr HB5.out.size
     go_wp2_with fail
     go_region
     go_wp2
     refine bodyPost_ret (v:=.tuple #[pv (.slice a0 p.l.length c0) (.slice a1 p.g.length c1) (.slice a2 p.h.length c2) (.slice a3 zs.length c3),.int .i64 l[k].col,.int .i64 2]) (by simp [results,Tryz.results70,go_sem,cb]) rfl ?_
     refine ⟨_,_,_,_,zs,by rw [E.out,BT.out],⟨⟨_,_,_,rfl⟩,⟨_,_,_,rfl⟩,⟨_,_,_,rfl⟩,⟨_,_,_,rfl⟩⟩,fun h=>absurd h (by rw [E.out,BT.out];exact (by decide:¬ (2:Int)=0)),?_⟩
     have hb4:=hlow
     (repeat' (first | with_reducible exact Below.refl _ _ | with_reducible assumption | with_reducible (refine Below.setCell ?_ ?_ _) | with_reducible (refine Below.alloc ?_ ?_ _) | with_reducible (refine below_drew ?_) | with_reducible (refine below_drewN ?_ _) | with_reducible (refine Below.trans ?_ (Below.mono (by assumption) ?_)) | omega | (simp;done) | (simp;omega)))
   ·have d2:decide ((k:Int) < 4)=false:=by (rw [decide_eq_false_iff_not];omega)
    have BT:=Lib.hid (RES.out _ (HB.out.trans (bound_many hlt h4)))
    obtain ⟨ca,fa,za⟩:=TR.out.a
    obtain ⟨cb,fb,zb⟩:=TR.out.b
    have hlow:=TR.out.low
    clear h4
    go_wp2_with fail
    go_big_quiet (fail)
    go_wp2_with fail
    go_region
    go_wp2
    refine bodyPost_ret (v:=.tuple #[pv (.slice a0 p.l.length c0) (.slice a1 p.g.length c1) (.slice a2 p.h.length c2) (.slice a3 zs.length c3),.int .i64 l[k].col,.int .i64 2]) (by simp [results,Tryz.results70,go_sem,cb]) rfl ?_
    refine ⟨_,_,_,_,zs,by rw [E.out,BT.out],⟨⟨_,_,_,rfl⟩,⟨_,_,_,rfl⟩,⟨_,_,_,rfl⟩,⟨_,_,_,rfl⟩⟩,fun h=>absurd h (by rw [E.out,BT.out];exact (by decide:¬ (2:Int)=0)),?_⟩
    have hb4:=hlow
    (repeat' (first | with_reducible exact Below.refl _ _ | with_reducible assumption | with_reducible (refine Below.setCell ?_ ?_ _) | with_reducible (refine Below.alloc ?_ ?_ _) | with_reducible (refine below_drew ?_) | with_reducible (refine below_drewN ?_ _) | with_reducible (refine Below.trans ?_ (Below.mono (by assumption) ?_)) | omega | (simp;done) | (simp;omega)))
  ·have HN:boundG [2,1,3,2] l=none:=HB.out.trans (by rw [show l.drop k=[] from List.drop_eq_nil_of_le (by omega)];exact bound_nil _)
   obtain rfl:k=l.length:=by omega
   have d1:decide ((l.length:Int) < (l.length:Int))=false:=by (rw [decide_eq_false_iff_not];omega)
   by_cases h4:l.length < 4
   ·have BT:=Lib.hid (RES2.out HN h4)
    have d4:decide ((l.length:Int) < 4)=true:=by (rw [decide_eq_true_iff];omega)
    clear h4 HN
    go_wp2_with fail
    go_big_quiet (fail)
    go_wp2_with fail
    have T4:=Lib.hid (TR.out.later (below_drew (below_of_drewN nq)))
    refine wp_region_held_drew (S:=fun W => ∀ o,W.cell? ⟨w.heap.size,o,none⟩=(#[.slice a0 p.l.length c0,.slice a1 p.g.length c1,.slice a2 p.h.length c2,.slice a3 zs.length c3]:Array Value)[o]?) (by kernel_rfl) T4.out.a.1 (fun hHeld=>?_)
    obtain ⟨W4,hW4⟩:∃ X,X=(wr.drewN nq).drew:=⟨_,rfl⟩
    rw [← hW4] at T4 hHeld ⊢
    clear hW4
    (refine hyes 0 ?_);(refine hyes 1 ?_);(try simp only [Act.put,List.setIfInBounds_toArray,List.set])
    (refine held_call 2 rfl (by kernel_rfl) (fun K hK=>?_);go_simp)
    go_at_call 132;refine (EN.out _).mono ?_;rintro e wz ⟨rfl,rfl⟩
    (refine hK.out _ _ T4.out.a.1 (fun hHeld=>?_);clear hK K;(try simp only [Act.put,List.setIfInBounds_toArray,List.set]))
    obtain ⟨cb,fb,zb⟩:=T4.out.b
    (refine held_call 3 rfl (by kernel_rfl) (fun K hK=>?_);go_simp)
    (refine hK.out _ _ (((((T4.out.a.setOther (g':=w.heap.size+1) (o:=0) (.slice a0 p.l.length c0) (by omega)).setOther (g':=w.heap.size+1) (o:=1) (.slice a1 p.g.length c1) (by omega)).setOther (g':=w.heap.size+1) (o:=2) (.slice a2 p.h.length c2) (by omega)).setOther (g':=w.heap.size+1) (o:=3) (.slice a3 zs.length c3) (by omega))).1 (fun hHeld=>?_);clear hK K;(try simp only [Act.put,List.setIfInBounds_toArray,List.set]))
    (refine hyes 4 ?_);(refine hyes 5 ?_);(try simp only [Act.put,List.setIfInBounds_toArray,List.set])
    refine wpAnyH_done (by kernel_rfl) ?_ _
    have hlow:=T4.out.low
    obtain ⟨ca,fa,za⟩:=T4.out.a
    go_wp2
    refine bodyPost_ret (v:=.tuple #[pv (.slice a0 p.l.length c0) (.slice a1 p.g.length c1) (.slice a2 p.h.length c2) (.slice a3 zs.length c3),.int .i64 en,.int .i64 3]) (by simp [results,Tryz.results70,go_sem,cb]) rfl ?_
    refine ⟨_,_,_,_,zs,by rw [E.out,BT.out],⟨⟨_,_,_,rfl⟩,⟨_,_,_,rfl⟩,⟨_,_,_,rfl⟩,⟨_,_,_,rfl⟩⟩,fun h=>absurd h (by rw [E.out,BT.out];exact (by decide:¬ (3:Int)=0)),?_⟩
    have hb4:=hlow
    (repeat' (first | with_reducible exact Below.refl _ _ | with_reducible assumption | with_reducible (refine Below.setCell ?_ ?_ _) | with_reducible (refine Below.alloc ?_ ?_ _) | with_reducible (refine below_drew ?_) | with_reducible (refine below_drewN ?_ _) | with_reducible (refine Below.trans ?_ (Below.mono (by assumption) ?_)) | omega | (simp;done) | (simp;omega)))
   ·have BT:=Lib.hid (RES3.out HN h4)
    have hl4:l.length=4:=by omega
    have d4:decide ((l.length:Int) < 4)=false:=by (rw [decide_eq_false_iff_not];omega)
    have h1:1 < l.length:=by omega
    have h3:3 < l.length:=by omega
    obtain ⟨_,p1,_⟩:=tok_cells (w:=wr) (Sl.cells_later HBW.out hb1 HX1.out) 1 h1
    obtain ⟨_,p3,_⟩:=tok_cells (w:=wr) (Sl.cells_later HBW.out hb1 HX1.out) 3 h3
    have hbr:tb < wr.heap.size:=Nat.lt_of_lt_of_le hb1 HBW.out.size
    have T1:=Lib.hid (txQ_at h1)
    have T3:=Lib.hid (txQ_at h3)
    rw [T1.out,T3.out] at BT
    simp only [Nat.reduceMul] at p1 p3
    generalize l[1].text=t1 at *
    generalize l[3].text=t3 at *
    have hl4:=Lib.hid hl4
    clear h4 HN T1 T3
    go_wp2_with fail
    go_big_quiet (fail)
    go_wp2_with fail
    refine wp_region_last (S:=fun W=>W.cell? ⟨tb,off+3+1,none⟩=some (.string ⟨t1.toArray⟩)∧W.cell? ⟨tb,off+9+1,none⟩=some (.string ⟨t3.toArray⟩)) 10 (by kernel_rfl) ⟨p1,p3⟩ (fun hHeld=>?_)
    have hd:Below wr.heap.size wr ((wr.drewN nq).drew):=below_drew (below_of_drewN nq)
    have T4:=Lib.hid (TR.out.later hd)
    have q1:((wr.drewN nq).drew).cell? ⟨tb,off+3+1,none⟩=some (.string ⟨t1.toArray⟩):=p1
    have q3:((wr.drewN nq).drew).cell? ⟨tb,off+9+1,none⟩=some (.string ⟨t3.toArray⟩):=p3
    have hbr4:tb < ((wr.drewN nq).drew).heap.size:=hbr
    obtain ⟨W4,hW4⟩:∃ X,X=(wr.drewN nq).drew:=⟨_,rfl⟩
    rw [← hW4] at T4 q1 q3 hbr4 hHeld ⊢
    clear hW4 hd p1 p3
    (refine lyes 0 ?_);(refine lyes 1 ?_);(refine lyes 2 ?_);(refine lyes 3 ?_);(refine lyes 4 ?_);(refine lyes 5 ?_);(refine lyes 6 ?_);(refine lyes 7 ?_);(refine lyes 8 ?_);(try simp only [Act.put,List.setIfInBounds_toArray,List.set])
    (refine last_call 9 rfl (by kernel_rfl) (fun K hK=>?_);go_simp)
    have hbq:Below W4.heap.size W4 (W4.alloc (.cells #[.string emp,.string emp] 78)):=(Below.refl _ _).alloc (Nat.le_refl _) _
    have HX5:=Lib.hid (Blk.new W4 #[.string emp,.string emp] 78)
    have T5:=Lib.hid (T4.out.later hbq)
    have q1:=(hbq.cell (p:=⟨tb,off+3+1,none⟩) hbr4).trans q1
    have q3:=(hbq.cell (p:=⟨tb,off+9+1,none⟩) hbr4).trans q3
    obtain ⟨W5,hW5⟩:∃ X,X=W4.alloc (.cells #[.string emp,.string emp] 78):=⟨_,rfl⟩
    obtain ⟨bx,hbx⟩:∃ X,X=W4.heap.size:=⟨_,rfl⟩
    have hbx0:w.heap.size+1 < bx:=by rw [hbx];exact T4.out.b.2.2
    rw [← hbx] at HX5 ⊢
    rw [← hW5] at HX5 T5 q1 q3 ⊢
    clear hW5 hbx hbq
    (refine hK.out _ _ ⟨q1,q3⟩ (fun hHeld=>?_);clear hK K;(try simp only [Act.put,List.setIfInBounds_toArray,List.set]))
    obtain ⟨cn,fn,zn⟩:=HX5.out
    (refine last_end 10 rfl (by kernel_rfl) (by kernel_rfl) (fun K hK=>?_);go_simp)
    clear cn fn zn q1 q3
    refine hK.out _ _ ?_
    clear hK K
    have HX6:=Lib.hid (show Blk ((W5.setCell ⟨bx,0,none⟩ (.string ⟨t1.toArray⟩)).setCell ⟨bx,1,none⟩ (.string ⟨t3.toArray⟩)) bx #[.string ⟨t1.toArray⟩,.string ⟨t3.toArray⟩] from ((HX5.out.put (o:=0) (v:=.string ⟨t1.toArray⟩) (by simp)).put (o:=1) (v:=.string ⟨t3.toArray⟩) (by simp)).congr rfl)
    have HB6:=Lib.hid ((T5.out.low.setCell (p:=⟨bx,0,none⟩) (by dsimp only;omega) (.string ⟨t1.toArray⟩)).setCell (p:=⟨bx,1,none⟩) (by dsimp only;omega) (.string ⟨t3.toArray⟩))
    have HT3:=Lib.hid (show TwoAt w #[.slice a0 p.l.length c0,.slice a1 p.g.length c1,.slice a2 p.h.length c2,.slice a3 zs.length c3] #[nilV,nilV,nilV,nilV] ((W5.setCell ⟨bx,0,none⟩ (.string ⟨t1.toArray⟩)).setCell ⟨bx,1,none⟩ (.string ⟨t3.toArray⟩)) from ⟨(T5.out.a.setOther (g':=bx) (o:=0) (.string ⟨t1.toArray⟩) (by omega)).setOther (g':=bx) (o:=1) (.string ⟨t3.toArray⟩) (by omega),(T5.out.b.setOther (g':=bx) (o:=0) (.string ⟨t1.toArray⟩) (by omega)).setOther (g':=bx) (o:=1) (.string ⟨t3.toArray⟩) (by omega),HB6.out⟩)
    obtain ⟨W3,hW3⟩:∃ X,X=(W5.setCell ⟨bx,0,none⟩ (.string ⟨t1.toArray⟩)).setCell ⟨bx,1,none⟩ (.string ⟨t3.toArray⟩):=⟨_,rfl⟩
    rw [← hW3] at HX6 HB6 HT3 ⊢
    clear hW3 T4 T5 HX5
    have HX3:=HX6
    have HB3:=HB6
    have HP3:=Lib.hid (HPD.out.below HB3.out)
    have HLN:=Lib.hid HL1.out
    obtain ⟨x1,hx1⟩:∃ X:ByteArray,X=⟨t1.toArray⟩:=⟨_,rfl⟩
    obtain ⟨x2,hx2⟩:∃ X:ByteArray,X=⟨t3.toArray⟩:=⟨_,rfl⟩
    rw [← hx1,← hx2] at BT HX3
    have E:=Lib.hid (show res=({ p with g:=insAllR [] (p.g++[⟨x1,x2⟩]) },0,0) by rw [E.out,BT.out])
    obtain ⟨LN,hLN⟩:∃ X,X=insAllR [] (p.g++[⟨x1,x2⟩]):=⟨_,rfl⟩
    rw [← hLN] at E
    have HNW:=Lib.hid hLN
    clear hLN
    rw [← hx1,← hx2]
    clear hx1 hx2 HX6 HB6 BT TR HBW HB RES RES2 RES3
    go_wp2_with fail
    refine wp_region_last (S:=fun W=>(∀ o,W.cell? ⟨w.heap.size,o,none⟩=(#[.slice a0 p.l.length c0,.slice a1 p.g.length c1,.slice a2 p.h.length c2,.slice a3 zs.length c3]:Array Value)[o]?)∧(∀ o,W.cell? ⟨bx,o,none⟩=(#[.string x1,.string x2]:Array Value)[o]?)) 9 (by kernel_rfl) ⟨(HT3.out.drew).a.1,(HX3.out.below (below_drew (Below.refl _ _))).1⟩ (fun hHeld=>?_)
    have hd:=below_drew (Below.refl W3.heap.size W3)
    have HS0:=Lib.hid (HT3.out.later hd).a
    have HS1:=Lib.hid (HX3.out.below hd)
    have HRW:=Lib.hid (HP3.out.rg.below hd)
    have HTZ:=Lib.hid (HT3.out.later hd)
    have HBZ:=Lib.hid (HB3.out.trans (hd.mono HB3.out.size))
    have HPZ:=Lib.hid (HP3.out.below hd)

    obtain ⟨WZ,hWZ⟩:∃ X,X=W3.drew:=⟨_,rfl⟩
    rw [← hWZ] at HS0 HS1 HRW HTZ HBZ HPZ hHeld ⊢
    clear hd hWZ HT3 HX3 HB3 HP3
    have HZ:=Lib.hid (Below.refl WZ.heap.size WZ)
    obtain ⟨inf,hin,hs0,hs1,hs2⟩:=info_parts rl_info'
    have HIN:=Lib.hid hin
    clear hin
    (refine lyes 1 ?_);(refine lyes 2 ?_);(refine lyes 4 ?_);(try simp only [Act.put,List.setIfInBounds_toArray,List.set])
    refine last_two 0 5 rfl rfl (by kernel_rfl) (fun K hK=>?_) (fun K hK=>?_)
    ·go_simp
     obtain ⟨V1,hV1⟩:∃ X,X=WZ.alloc (.cells #[] 78):=⟨_,rfl⟩
     rw [← hV1]
     have hbq:Below WZ.heap.size WZ V1:=by rw [hV1];exact (Below.refl _ _).alloc (Nat.le_refl _) _
     have HZ:=Lib.hid (HZ.out.trans (hbq.mono HZ.out.size))
     have HR:=Lib.hid (show V1.ownsRow WZ.heap.size 78 2 (.slice (some ⟨WZ.heap.size,0,none⟩) 0 0) 0 [] by rw [hV1];exact World.ownsRow_made WZ #[] 0 (Nat.le_refl _) (Nat.zero_le _) (by simp))
     clear hbq hV1
     (refine hK.out _ _ ⟨(HS0.out.below HZ.out).1,(HS1.out.below HZ.out).1⟩ (fun hHeld=>?_);clear hK K;(try simp only [Act.put,List.setIfInBounds_toArray,List.set]))
     refine last_two 3 5 rfl rfl (by kernel_rfl) (fun K hK=>?_) (fun K hK=>?_)
     ·refine step_row rfl _ _ 23 rfl WZ.heap.size 78 inf _ 2 32 Tryz.underlying23 HIN.out hs0 hs1 hs2 (by decide) rfl (by decide) _ 0 _ rfl HR.out _ p.g.length _ rfl (HRW.out.below HZ.out) (rls_one _) (by have:=HLN.out;omega) HZ.out.size ?_
      intro a3' c3' V2 hown3 hg3
      simp only [Nat.zero_add,List.nil_append] at hown3 ⊢
      have HZ:=Lib.hid (below_own HZ.out HR.out hg3 HZ.out.size (Nat.le_refl _))
      have HR:=Lib.hid hown3
      clear hown3 hg3
      (refine hK.out _ _ ⟨(HS0.out.below HZ.out).1,(HS1.out.below HZ.out).1⟩ (fun hHeld=>?_);clear hK K;(try simp only [Act.put,List.setIfInBounds_toArray,List.set]))
      (refine last_call 5 rfl (by kernel_rfl) (fun K hK=>?_);go_simp)
      have HT:Hid (RowsTwo WZ _ _ _ _ _ _ _ _ (V2.alloc (.cells #[.string x1,.string x2] 78))):=Lib.hid (RowsTwo.one (cs:=Rl.cells ⟨x1,x2⟩) (m:=1) HZ.out HR.out rfl (by decide))
      obtain ⟨V3,hV3⟩:∃ X,X=V2.alloc (.cells #[.string x1,.string x2] 78):=⟨_,rfl⟩
      rw [← hV3]
      have hbq:Below V2.heap.size V2 V3:=by rw [hV3];exact (Below.refl _ _).alloc (Nat.le_refl _) _
      have HZ:=Lib.hid (HZ.out.trans (hbq.mono HZ.out.size))
      rw [← hV3] at HT
      clear hbq hV3 HR
      (refine hK.out _ _ ⟨(HS0.out.below HZ.out).1,(HS1.out.below HZ.out).1⟩ (fun hHeld=>?_);clear hK K;(try simp only [Act.put,List.setIfInBounds_toArray,List.set]))
      refine last_call 6 rfl (by kernel_rfl) (fun K hK=>?_)
      refine step_rowE rfl _ _ 23 rfl WZ.heap.size 78 inf _ 2 32 Tryz.underlying23 HIN.out hs0 hs1 hs2 (by decide) rfl (by decide) _ (p.g.length) _ rfl HT.out.o1 _ 1 _ rfl (Sl.of_own HT.out.o2).a (rlc_one _) (by have:=HLN.out;omega) HT.out.low.size ?_
      intro a6 c6 V6 hown6 hg6 hne6
      have HZ:=Lib.hid (below_own HT.out.low HT.out.o1 hg6 HT.out.low.size (Nat.le_refl _))
      have HO6:=Lib.hid hown6
      clear hg6 hne6 hown6 HT
      (refine hK.out _ _ ⟨(HS0.out.below HZ.out).1,(HS1.out.below HZ.out).1⟩ (fun hHeld=>?_);clear hK K;(try simp only [Act.put,List.setIfInBounds_toArray,List.set]))
      (refine last_call 7 rfl (by kernel_rfl) (fun K hK=>?_);go_simp)
      go_at_call 18;refine (ref5_Sort _ (p.g++[⟨x1,x2⟩]) _ (by rw [List.length_append,List.flatMap_append];simpa using (Sl.of_own HO6.out).a) (by have:=HLN.out;simp;omega)).mono ?_;rintro e V7 ⟨v7,rfl,hs7,hb7⟩
      rw [← HNW.out] at hs7
      obtain ⟨a7,c7,rfl⟩:=hs7.form
      have HS7:=Lib.hid hs7
      have HZ:=Lib.hid (HZ.out.trans (hb7.mono HZ.out.size))
      clear hs7 hb7 HO6
      (refine hK.out _ _ ⟨(HS0.out.below HZ.out).1,(HS1.out.below HZ.out).1⟩ (fun hHeld=>?_);clear hK K;(try simp only [Act.put,List.setIfInBounds_toArray,List.set]))
      (refine lyes 8 ?_);(try simp only [Act.put,List.setIfInBounds_toArray,List.set])
      obtain ⟨cg,fg,zg⟩:=HS0.out.below HZ.out
      (refine last_end 9 rfl (by kernel_rfl) (by kernel_rfl) (fun K hK=>?_);go_simp)
      clear cg fg zg
      have HBV:=Lib.hid (HBZ.out.trans (HZ.out.mono HBZ.out.size))
      have HTF:=Lib.hid (HTZ.out.later HZ.out)
      have ha0:=Lib.hid (HTF.out.a.put (o:=1) (v:=(.slice a7 LN.length c7)) (by simp))
      have hb0:=Lib.hid (HTF.out.b.setOther (g':=w.heap.size) (o:=1) (.slice a7 LN.length c7) (by omega))
      have HBF:=Lib.hid (HBV.out.setCell (p:=⟨w.heap.size,1,none⟩) (Nat.le_refl _) (.slice a7 LN.length c7))
      have HNF:=Lib.hid (HS7.out.set (o:=1) (x:=(.slice a7 LN.length c7)) (blkS4 HTF.out.a rfl rfl rfl rfl) (rl_noSl _))
      have HSB:=Lib.hid (blkS4 hb0.out rfl rfl rfl rfl)
      clear HS7
      clear HBV HTF HTZ HBZ HPZ HZ HS0 HS1 HRW
      refine hK.out _ _ ?_
      clear hK K
      obtain ⟨wd,hwd2⟩:∃ X,X=V7.setCell ⟨w.heap.size,1,none⟩ (.slice a7 LN.length c7):=⟨_,rfl⟩
      rw [← hwd2] at ha0 hb0 HBF HNF HSB ⊢
      clear hwd2
      obtain ⟨ca,fa,za⟩:=ha0.out
      obtain ⟨cb,fb,zb⟩:=hb0.out
      go_wp2
      refine bodyPost_ret (v:=.tuple #[pv (.slice a0 p.l.length c0) (.slice a7 LN.length c7) (.slice a2 p.h.length c2) (.slice a3 zs.length c3),.int .i64 0,.int .i64 0]) (by simp [results,Tryz.results70,go_sem,cb]) rfl ?_
      refine ⟨_,_,_,_,zs,by rw [E.out],⟨⟨_,_,_,rfl⟩,⟨_,_,_,rfl⟩,⟨_,_,_,rfl⟩,⟨_,_,_,rfl⟩⟩,fun _=>?_,below_puts (g:=w.heap.size+1) (by omega) [(.slice a0 p.l.length c0),(.slice a7 LN.length c7),(.slice a2 p.h.length c2),(.slice a3 zs.length c3)] 0 wd HBF.out⟩
      rw [E.out]
      exact (HPD.out.below (below_puts (g:=w.heap.size+1) (by omega) [(.slice a0 p.l.length c0),(.slice a7 LN.length c7),(.slice a2 p.h.length c2),(.slice a3 zs.length c3)] 0 wd HBF.out)).g (Sl.puts (rl_noSl _) [(.slice a0 p.l.length c0),(.slice a7 LN.length c7),(.slice a2 p.h.length c2),(.slice a3 zs.length c3)] 0 wd HNF.out HSB.out (by simp) (by simp [isSl])).a
     ·go_simp
      have HT:Hid (RowsTwo WZ _ _ _ _ _ _ _ _ (V1.alloc (.cells #[.string x1,.string x2] 78))):=Lib.hid (RowsTwo.one (cs:=Rl.cells ⟨x1,x2⟩) (m:=1) HZ.out HR.out rfl (by decide))
      obtain ⟨V2,hV2⟩:∃ X,X=V1.alloc (.cells #[.string x1,.string x2] 78):=⟨_,rfl⟩
      rw [← hV2]
      have hbq:Below V1.heap.size V1 V2:=by rw [hV2];exact (Below.refl _ _).alloc (Nat.le_refl _) _
      have HZ:=Lib.hid (HZ.out.trans (hbq.mono HZ.out.size))
      rw [← hV2] at HT
      clear hbq hV2 HR
      (refine hK.out _ _ ⟨(HS0.out.below HZ.out).1,(HS1.out.below HZ.out).1⟩ (fun hHeld=>?_);clear hK K;(try simp only [Act.put,List.setIfInBounds_toArray,List.set]))
      refine last_call 3 rfl (by kernel_rfl) (fun K hK=>?_)
      refine step_rowE rfl _ _ 23 rfl WZ.heap.size 78 inf _ 2 32 Tryz.underlying23 HIN.out hs0 hs1 hs2 (by decide) rfl (by decide) _ 0 _ rfl HT.out.o1 _ p.g.length _ rfl (HRW.out.below HZ.out) (rls_one _) (by have:=HLN.out;omega) HZ.out.size ?_
      intro a3' c3' V3 hown3 hg3 hne3
      simp only [Nat.zero_add,List.nil_append] at hown3 hne3 ⊢
      have HT:=Lib.hid (HT.out.grow1 hown3 hg3 hne3)
      have HZ:=Lib.hid HT.out.low
      clear hown3 hg3 hne3
      (refine hK.out _ _ ⟨(HS0.out.below HZ.out).1,(HS1.out.below HZ.out).1⟩ (fun hHeld=>?_);clear hK K;(try simp only [Act.put,List.setIfInBounds_toArray,List.set]))
      refine last_call 6 rfl (by kernel_rfl) (fun K hK=>?_)
      refine step_rowE rfl _ _ 23 rfl WZ.heap.size 78 inf _ 2 32 Tryz.underlying23 HIN.out hs0 hs1 hs2 (by decide) rfl (by decide) _ (p.g.length) _ rfl HT.out.o1 _ 1 _ rfl (Sl.of_own HT.out.o2).a (rlc_one _) (by have:=HLN.out;omega) HT.out.low.size ?_
      intro a6 c6 V6 hown6 hg6 hne6
      have HZ:=Lib.hid (below_own HT.out.low HT.out.o1 hg6 HT.out.low.size (Nat.le_refl _))
      have HO6:=Lib.hid hown6
      clear hg6 hne6 hown6 HT
      (refine hK.out _ _ ⟨(HS0.out.below HZ.out).1,(HS1.out.below HZ.out).1⟩ (fun hHeld=>?_);clear hK K;(try simp only [Act.put,List.setIfInBounds_toArray,List.set]))
      (refine last_call 7 rfl (by kernel_rfl) (fun K hK=>?_);go_simp)
      go_at_call 18;refine (ref5_Sort _ (p.g++[⟨x1,x2⟩]) _ (by rw [List.length_append,List.flatMap_append];simpa using (Sl.of_own HO6.out).a) (by have:=HLN.out;simp;omega)).mono ?_;rintro e V7 ⟨v7,rfl,hs7,hb7⟩
      rw [← HNW.out] at hs7
      obtain ⟨a7,c7,rfl⟩:=hs7.form
      have HS7:=Lib.hid hs7
      have HZ:=Lib.hid (HZ.out.trans (hb7.mono HZ.out.size))
      clear hs7 hb7 HO6
      (refine hK.out _ _ ⟨(HS0.out.below HZ.out).1,(HS1.out.below HZ.out).1⟩ (fun hHeld=>?_);clear hK K;(try simp only [Act.put,List.setIfInBounds_toArray,List.set]))
      (refine lyes 8 ?_);(try simp only [Act.put,List.setIfInBounds_toArray,List.set])
      obtain ⟨cg,fg,zg⟩:=HS0.out.below HZ.out
      (refine last_end 9 rfl (by kernel_rfl) (by kernel_rfl) (fun K hK=>?_);go_simp)
      clear cg fg zg
      have HBV:=Lib.hid (HBZ.out.trans (HZ.out.mono HBZ.out.size))
      have HTF:=Lib.hid (HTZ.out.later HZ.out)
      have ha0:=Lib.hid (HTF.out.a.put (o:=1) (v:=(.slice a7 LN.length c7)) (by simp))
      have hb0:=Lib.hid (HTF.out.b.setOther (g':=w.heap.size) (o:=1) (.slice a7 LN.length c7) (by omega))
      have HBF:=Lib.hid (HBV.out.setCell (p:=⟨w.heap.size,1,none⟩) (Nat.le_refl _) (.slice a7 LN.length c7))
      have HNF:=Lib.hid (HS7.out.set (o:=1) (x:=(.slice a7 LN.length c7)) (blkS4 HTF.out.a rfl rfl rfl rfl) (rl_noSl _))
      have HSB:=Lib.hid (blkS4 hb0.out rfl rfl rfl rfl)
      clear HS7
      clear HBV HTF HTZ HBZ HPZ HZ HS0 HS1 HRW
      refine hK.out _ _ ?_
      clear hK K
      obtain ⟨wd,hwd2⟩:∃ X,X=V7.setCell ⟨w.heap.size,1,none⟩ (.slice a7 LN.length c7):=⟨_,rfl⟩
      rw [← hwd2] at ha0 hb0 HBF HNF HSB ⊢
      clear hwd2
      obtain ⟨ca,fa,za⟩:=ha0.out
      obtain ⟨cb,fb,zb⟩:=hb0.out
      go_wp2
      refine bodyPost_ret (v:=.tuple #[pv (.slice a0 p.l.length c0) (.slice a7 LN.length c7) (.slice a2 p.h.length c2) (.slice a3 zs.length c3),.int .i64 0,.int .i64 0]) (by simp [results,Tryz.results70,go_sem,cb]) rfl ?_
      refine ⟨_,_,_,_,zs,by rw [E.out],⟨⟨_,_,_,rfl⟩,⟨_,_,_,rfl⟩,⟨_,_,_,rfl⟩,⟨_,_,_,rfl⟩⟩,fun _=>?_,below_puts (g:=w.heap.size+1) (by omega) [(.slice a0 p.l.length c0),(.slice a7 LN.length c7),(.slice a2 p.h.length c2),(.slice a3 zs.length c3)] 0 wd HBF.out⟩
      rw [E.out]
      exact (HPD.out.below (below_puts (g:=w.heap.size+1) (by omega) [(.slice a0 p.l.length c0),(.slice a7 LN.length c7),(.slice a2 p.h.length c2),(.slice a3 zs.length c3)] 0 wd HBF.out)).g (Sl.puts (rl_noSl _) [(.slice a0 p.l.length c0),(.slice a7 LN.length c7),(.slice a2 p.h.length c2),(.slice a3 zs.length c3)] 0 wd HNF.out HSB.out (by simp) (by simp [isSl])).a
    ·go_simp
     have HO:Hid ((WZ.alloc (.cells #[.string x1,.string x2] 78)).ownsRow WZ.heap.size _ _ _ _ _):=Lib.hid (own_alloc1 (w0:=WZ) (w:=WZ) (e:=78) (size:=2) (m:=1) (cs:=Rl.cells ⟨x1,x2⟩) (Nat.le_refl _) rfl (by decide))
     obtain ⟨V1,hV1⟩:∃ X,X=WZ.alloc (.cells #[.string x1,.string x2] 78):=⟨_,rfl⟩
     rw [← hV1]
     have hbq:Below WZ.heap.size WZ V1:=by rw [hV1];exact (Below.refl _ _).alloc (Nat.le_refl _) _
     have HZ:=Lib.hid (HZ.out.trans (hbq.mono HZ.out.size))
     rw [← hV1] at HO
     clear hbq hV1
     (refine hK.out _ _ ⟨(HS0.out.below HZ.out).1,(HS1.out.below HZ.out).1⟩ (fun hHeld=>?_);clear hK K;(try simp only [Act.put,List.setIfInBounds_toArray,List.set]))
     (refine last_call 0 rfl (by kernel_rfl) (fun K hK=>?_);go_simp)
     have HT:=Lib.hid (RowsTwo.new HZ.out HO.out).swap
     obtain ⟨V2,hV2⟩:∃ X,X=V1.alloc (.cells #[] 78):=⟨_,rfl⟩
     rw [← hV2]
     have hbq:Below V1.heap.size V1 V2:=by rw [hV2];exact (Below.refl _ _).alloc (Nat.le_refl _) _
     have HZ:=Lib.hid (HZ.out.trans (hbq.mono HZ.out.size))
     rw [← hV2] at HT
     clear hbq hV2 HO
     (refine hK.out _ _ ⟨(HS0.out.below HZ.out).1,(HS1.out.below HZ.out).1⟩ (fun hHeld=>?_);clear hK K;(try simp only [Act.put,List.setIfInBounds_toArray,List.set]))
     refine last_call 3 rfl (by kernel_rfl) (fun K hK=>?_)
     refine step_rowE rfl _ _ 23 rfl WZ.heap.size 78 inf _ 2 32 Tryz.underlying23 HIN.out hs0 hs1 hs2 (by decide) rfl (by decide) _ 0 _ rfl HT.out.o1 _ p.g.length _ rfl (HRW.out.below HZ.out) (rls_one _) (by have:=HLN.out;omega) HZ.out.size ?_
     intro a3' c3' V3 hown3 hg3 hne3
     simp only [Nat.zero_add,List.nil_append] at hown3 hne3 ⊢
     have HT:=Lib.hid (HT.out.grow1 hown3 hg3 hne3)
     have HZ:=Lib.hid HT.out.low
     clear hown3 hg3 hne3
     (refine hK.out _ _ ⟨(HS0.out.below HZ.out).1,(HS1.out.below HZ.out).1⟩ (fun hHeld=>?_);clear hK K;(try simp only [Act.put,List.setIfInBounds_toArray,List.set]))

     refine last_call 6 rfl (by kernel_rfl) (fun K hK=>?_)
     refine step_rowE rfl _ _ 23 rfl WZ.heap.size 78 inf _ 2 32 Tryz.underlying23 HIN.out hs0 hs1 hs2 (by decide) rfl (by decide) _ (p.g.length) _ rfl HT.out.o1 _ 1 _ rfl (Sl.of_own HT.out.o2).a (rlc_one _) (by have:=HLN.out;omega) HT.out.low.size ?_
     intro a6 c6 V6 hown6 hg6 hne6
     have HZ:=Lib.hid (below_own HT.out.low HT.out.o1 hg6 HT.out.low.size (Nat.le_refl _))
     have HO6:=Lib.hid hown6
     clear hg6 hne6 hown6 HT
     (refine hK.out _ _ ⟨(HS0.out.below HZ.out).1,(HS1.out.below HZ.out).1⟩ (fun hHeld=>?_);clear hK K;(try simp only [Act.put,List.setIfInBounds_toArray,List.set]))
     (refine last_call 7 rfl (by kernel_rfl) (fun K hK=>?_);go_simp)
     go_at_call 18;refine (ref5_Sort _ (p.g++[⟨x1,x2⟩]) _ (by rw [List.length_append,List.flatMap_append];simpa using (Sl.of_own HO6.out).a) (by have:=HLN.out;simp;omega)).mono ?_;rintro e V7 ⟨v7,rfl,hs7,hb7⟩
     rw [← HNW.out] at hs7
     obtain ⟨a7,c7,rfl⟩:=hs7.form
     have HS7:=Lib.hid hs7
     have HZ:=Lib.hid (HZ.out.trans (hb7.mono HZ.out.size))
     clear hs7 hb7 HO6
     (refine hK.out _ _ ⟨(HS0.out.below HZ.out).1,(HS1.out.below HZ.out).1⟩ (fun hHeld=>?_);clear hK K;(try simp only [Act.put,List.setIfInBounds_toArray,List.set]))
     (refine lyes 8 ?_);(try simp only [Act.put,List.setIfInBounds_toArray,List.set])
     obtain ⟨cg,fg,zg⟩:=HS0.out.below HZ.out
     (refine last_end 9 rfl (by kernel_rfl) (by kernel_rfl) (fun K hK=>?_);go_simp)
     clear cg fg zg
     have HBV:=Lib.hid (HBZ.out.trans (HZ.out.mono HBZ.out.size))
     have HTF:=Lib.hid (HTZ.out.later HZ.out)
     have ha0:=Lib.hid (HTF.out.a.put (o:=1) (v:=(.slice a7 LN.length c7)) (by simp))
     have hb0:=Lib.hid (HTF.out.b.setOther (g':=w.heap.size) (o:=1) (.slice a7 LN.length c7) (by omega))
     have HBF:=Lib.hid (HBV.out.setCell (p:=⟨w.heap.size,1,none⟩) (Nat.le_refl _) (.slice a7 LN.length c7))
     have HNF:=Lib.hid (HS7.out.set (o:=1) (x:=(.slice a7 LN.length c7)) (blkS4 HTF.out.a rfl rfl rfl rfl) (rl_noSl _))
     have HSB:=Lib.hid (blkS4 hb0.out rfl rfl rfl rfl)
     clear HS7
     clear HBV HTF HTZ HBZ HPZ HZ HS0 HS1 HRW
     refine hK.out _ _ ?_
     clear hK K
     obtain ⟨wd,hwd2⟩:∃ X,X=V7.setCell ⟨w.heap.size,1,none⟩ (.slice a7 LN.length c7):=⟨_,rfl⟩
     rw [← hwd2] at ha0 hb0 HBF HNF HSB ⊢
     clear hwd2
     obtain ⟨ca,fa,za⟩:=ha0.out
     obtain ⟨cb,fb,zb⟩:=hb0.out
     go_wp2
     refine bodyPost_ret (v:=.tuple #[pv (.slice a0 p.l.length c0) (.slice a7 LN.length c7) (.slice a2 p.h.length c2) (.slice a3 zs.length c3),.int .i64 0,.int .i64 0]) (by simp [results,Tryz.results70,go_sem,cb]) rfl ?_
     refine ⟨_,_,_,_,zs,by rw [E.out],⟨⟨_,_,_,rfl⟩,⟨_,_,_,rfl⟩,⟨_,_,_,rfl⟩,⟨_,_,_,rfl⟩⟩,fun _=>?_,below_puts (g:=w.heap.size+1) (by omega) [(.slice a0 p.l.length c0),(.slice a7 LN.length c7),(.slice a2 p.h.length c2),(.slice a3 zs.length c3)] 0 wd HBF.out⟩
     rw [E.out]
     exact (HPD.out.below (below_puts (g:=w.heap.size+1) (by omega) [(.slice a0 p.l.length c0),(.slice a7 LN.length c7),(.slice a2 p.h.length c2),(.slice a3 zs.length c3)] 0 wd HBF.out)).g (Sl.puts (rl_noSl _) [(.slice a0 p.l.length c0),(.slice a7 LN.length c7),(.slice a2 p.h.length c2),(.slice a3 zs.length c3)] 0 wd HNF.out HSB.out (by simp) (by simp [isSl])).a
end
section
open Go.RowKit Go.Shelf

set_option maxRecDepth 100000 in
set_option maxHeartbeats 2000000 in
theorem ref5_line_shrink (s:ByteArray) (v0 v1 v2 v3:Value) (p:Pd) (zs:List (Qd × Value)) (w:World) (hp:PolD w v0 v1 v2 v3 p zs) (hs:s.size≤1000000) (hl0:p.l.length≤100) (hl1:p.g.length≤100) (hl2:p.h.length≤100) (hl3:p.q.length≤100) (l:List Tok) (ti:Int) (ht:tokens (bl s)=(l,ti,0)) (h0:0 < l.length) (t1:¬ (txQ l 0=wAlways∨txQ l 0=wCan)) (t3:¬ txQ l 0=wGrow) (t4:txQ l 0=wShrink) :
  Calls Tryz.prog 70 #[pv v0 v1 v2 v3,.string s] w fun e w'=>LineR (lineP p s) w e w':=by
 have HL0:=Lib.hid hl0
 have HL1:=Lib.hid hl1
 have HL2:=Lib.hid hl2
 have HL3:=Lib.hid (show zs.length≤100 by rw [← hp.z,List.length_map] at hl3;exact hl3)
 have HPD:=Lib.hid hp
 obtain ⟨a0,c0,rfl⟩:=hp.rs.form
 obtain ⟨a1,c1,rfl⟩:=hp.rg.form
 obtain ⟨a2,c2,rfl⟩:=hp.rh.form
 obtain ⟨a3,c3,rfl⟩:=hp.rq.form
 have HT:=Lib.hid (TwoAt.new w #[.slice a0 p.l.length c0,.slice a1 p.g.length c1,.slice a2 p.h.length c2,.slice a3 zs.length c3] #[nilV,nilV,nilV,nilV] 26 26)
 have TK:=Lib.hid (fun W=>ref2_Tokens_any s W (by omega))
 have E:=Lib.hid (show lineP p s=lineT p s (tokens (bl s)) from rfl)
 generalize lineP p s=res at E ⊢
 clear hp hl0 hl1 hl2 hl3
 rw [ht] at E TK
 clear ht
 go_enter Tryz.func70,Tryz.ntmps70
 go_wp2_with fail
 refine (TK.out _).mono ?_
 rintro e w1 ⟨va,rfl,hown1,hb1⟩
 dsimp only at hown1
 obtain ⟨sa,sc,rfl⟩:=own_form hown1
 have HS1:=Lib.hid (Sl.of_own hown1)
 have HT:=Lib.hid (HT.out.later hb1)
 have HTB:=Lib.hid (fun (b off:Nat) (h:sa=some ⟨b,off,none⟩)=>show ¬ b=w.heap.size+1∧¬ b=w.heap.size by
  have:=(hown1.lt b (by rw [h];rfl)).1
  simp at this
  omega)
 clear hown1 hb1 TK
 have HMX:=Lib.hid HS1.out.max
 have dl:((l.length:Int) == 0)=false:=by rw [beq_eq_false_iff_ne];omega
 obtain ⟨tb,off,cap,he1,hc1,hm1,hb1,hx1⟩:=HS1.out.pos (by omega)
 simp only [Value.slice.injEq,true_and] at he1
 obtain ⟨rfl,rfl⟩:=he1
 obtain ⟨hbg1,hbg0⟩:=HTB.out tb off rfl
 have HX1:=Lib.hid hx1
 obtain ⟨_,p1,_⟩:=tok_cells hx1 0 h0
 have TX:=Lib.hid (show (⟨l[0].text.toArray⟩:ByteArray)=txQ l 0 from (txQ_at h0).symm)
 rw [TX.out] at p1
 simp only [Nat.zero_mul,Nat.add_zero] at p1
 clear hx1 TX
 have e1:((txQ l 0).toList == [97,108,119,97,121,115])=false:=tx_ne (fun h=>t1 (.inl h))
 have e2:((txQ l 0).toList == [99,97,110])=false:=tx_ne (fun h=>t1 (.inr h))
 have e3:((txQ l 0).toList == [103,114,111,119])=false:=tx_ne t3
 have e3n:((txQ l 0).toList != [103,114,111,119])=true:=tx_nt t3
 have e4:((txQ l 0).toList == [115,104,114,105,110,107])=true:=tx_eq t4
 have e4n:((txQ l 0).toList != [115,104,114,105,110,107])=false:=tx_nf t4
 have A1:=Lib.hid t1
 have A3:=Lib.hid t3
 have A4:=Lib.hid t4
 clear t1 t3 t4
 have E:=Lib.hid (E.out.trans (lineT_shrinkL (p:=p) (s:=s) (i:=ti) h0 A1.out A3.out A4.out))
 have EN:=Lib.hid (fun W=>ref3_End s W (by omega))
 have EE:endOf' s=endOf s:=rfl
 rw [EE] at EN
 clear EE
 have RES:=Lib.hid (fun c (h:boundG [2,1,3,2] l=some c)=>boundT_some (e:=endOf s) h)
 have RES2:=Lib.hid (fun (h:boundG [2,1,3,2] l=none) (h4:l.length < 4)=>boundT_few (e:=endOf s) h h4)
 have RES3:=Lib.hid (fun (h:boundG [2,1,3,2] l=none) (h4:¬ l.length < 4)=>boundT_yes (e:=endOf s) h h4)
 generalize endOf s=en at *
 generalize boundT l en=bt at E RES RES2 RES3
 go_wp2_with fail
 go_loopw [17] (fun i wr => ∃ k:Nat,k≤l.length∧k≤4∧i=.int .i64 k∧Hid (TwoAt w #[.slice a0 p.l.length c0,.slice a1 p.g.length c1,.slice a2 p.h.length c2,.slice a3 zs.length c3] #[nilV,nilV,nilV,nilV] wr)∧Hid (Below w1.heap.size w1 wr)∧Hid (boundG [2,1,3,2] l=boundG (([2,1,3,2]:List Int).drop k) (l.drop k))) (fun i _=>l.length - (intOf i).toNat)
 case atStart=>exact ⟨0,by omega,by omega,rfl,HT,Lib.hid (Below.refl _ _),Lib.hid rfl⟩
 case round =>
  obtain ⟨k,hk,hk4,rfl,TR,HBW,HB⟩:=hrel
  have hmx:=HMX.out
  by_cases hlt:k < l.length
  ·obtain ⟨p0,_,p2⟩:=tok_cells (w:=wr) (Sl.cells_later HBW.out hb1 HX1.out) k hlt
   have hbr:tb < wr.heap.size:=Nat.lt_of_lt_of_le hb1 HBW.out.size
   have d1:decide ((k:Int) < (l.length:Int))=true:=by (rw [decide_eq_true_iff];omega)
   by_cases h4:k < 4
   ·have d2:decide ((k:Int) < 4)=true:=by (rw [decide_eq_true_iff];omega)
    by_cases he:l[k].kind=want4 k
    ·have HN:=Lib.hid (HB.out.trans (bound_go hlt h4 he))
     have d3:(l[k].kind == want4 k)=true:=by rw [he];simp
     clear he
     go_wp2_with fail
     refine wp_region_held_drew (S:=fun W=>W.cell? ⟨tb,off+k * 3,none⟩=some (.int .i64 l[k].kind)) (by kernel_rfl) p0 (fun hHeld=>?_)
     obtain ⟨W4,hW4⟩:∃ X,X=wr.drew:=⟨_,rfl⟩
     have hb4:Below wr.heap.size wr W4:=by rw [hW4];exact below_drew (Below.refl _ _)
     rw [← hW4] at hHeld ⊢
     clear hW4
     (refine hyes 0 ?_);(refine hyes 1 ?_);(refine hyes 2 ?_);(refine hyes 3 ?_);(refine hyes 4 ?_);(refine hyes 5 ?_);(refine hyes 6 ?_);(refine hyes 7 ?_);(refine hyes 8 ?_);(refine hyes 9 ?_);(refine hyes 10 ?_);(refine hyes 11 ?_);(refine hyes 12 ?_);(refine hyes 13 ?_);(refine hyes 15 ?_);(try simp only [Act.put,List.setIfInBounds_toArray,List.set])
     (refine held_call 14 rfl (by kernel_rfl) (fun K hK=>?_);go_simp)
     obtain ⟨W5,hW5⟩:∃ X,X=W4.alloc (.cells #[.int .i64 2,.int .i64 1,.int .i64 3,.int .i64 2] 3):=⟨_,rfl⟩
     obtain ⟨bn,hbn⟩:∃ b,b=W4.heap.size:=⟨_,rfl⟩
     rw [← hW5,← hbn]
     have hb5:Below wr.heap.size wr W5:=by rw [hW5];exact hb4.alloc hb4.size _
     have hq:W5.cell? ⟨bn,k,none⟩=some (.int .i64 (want4 k)):=by
      rw [hW5,hbn];exact ((Blk.new W4 #[.int .i64 2,.int .i64 1,.int .i64 3,.int .i64 2] 3).1 k).trans (want_get h4)
     have hS5:W5.cell? ⟨tb,off+k * 3,none⟩=some (.int .i64 l[k].kind):=(hb5.cell (p:=⟨tb,_,none⟩) hbr).trans p0
     have HB5:=Lib.hid hb5
     have hk4i:(k:Int) < 4:=by omega
     clear hW5 hbn hb4 hb5
     (refine hK.out _ _ hS5 (fun hHeld=>?_);clear hK K;(try simp only [Act.put,List.setIfInBounds_toArray,List.set]))
     (refine hnow 16 ?_);(refine hnow 17 ?_);(refine hnow 18 ?_);(refine hnow 19 ?_);(try simp only [Act.put,List.setIfInBounds_toArray,List.set])
     refine wpAnyH_done (by kernel_rfl) ?_ _
     have TR5:=Lib.hid (TR.out.later HB5.out)
     have HBW5:=Lib.hid (HBW.out.trans (HB5.out.mono HBW.out.size))
     clear hS5 hq hHeld p0
     go_wp2
     exact ⟨⟨k+1,by omega,by omega,by go_num,TR5,HBW5,HN⟩,by simp [intOf];omega⟩
    ·have BT:=Lib.hid (RES.out _ (HB.out.trans (bound_no hlt h4 he)))
     have d3:(l[k].kind == want4 k)=false:=by simp [he]
     clear he
     go_wp2_with fail
     refine wp_region_held_drew (S:=fun W=>W.cell? ⟨tb,off+k * 3,none⟩=some (.int .i64 l[k].kind)) (by kernel_rfl) p0 (fun hHeld=>?_)
     obtain ⟨W4,hW4⟩:∃ X,X=wr.drew:=⟨_,rfl⟩
     have hb4:Below wr.heap.size wr W4:=by rw [hW4];exact below_drew (Below.refl _ _)
     rw [← hW4] at hHeld ⊢
     clear hW4
     (refine hyes 0 ?_);(refine hyes 1 ?_);(refine hyes 2 ?_);(refine hyes 3 ?_);(refine hyes 4 ?_);(refine hyes 5 ?_);(refine hyes 6 ?_);(refine hyes 7 ?_);(refine hyes 8 ?_);(refine hyes 9 ?_);(refine hyes 10 ?_);(refine hyes 11 ?_);(refine hyes 12 ?_);(refine hyes 13 ?_);(refine hyes 15 ?_);(try simp only [Act.put,List.setIfInBounds_toArray,List.set])
     (refine held_call 14 rfl (by kernel_rfl) (fun K hK=>?_);go_simp)
     obtain ⟨W5,hW5⟩:∃ X,X=W4.alloc (.cells #[.int .i64 2,.int .i64 1,.int .i64 3,.int .i64 2] 3):=⟨_,rfl⟩
     obtain ⟨bn,hbn⟩:∃ b,b=W4.heap.size:=⟨_,rfl⟩
     rw [← hW5,← hbn]
     have hb5:Below wr.heap.size wr W5:=by rw [hW5];exact hb4.alloc hb4.size _
     have hq:W5.cell? ⟨bn,k,none⟩=some (.int .i64 (want4 k)):=by
      rw [hW5,hbn];exact ((Blk.new W4 #[.int .i64 2,.int .i64 1,.int .i64 3,.int .i64 2] 3).1 k).trans (want_get h4)
     have hS5:W5.cell? ⟨tb,off+k * 3,none⟩=some (.int .i64 l[k].kind):=(hb5.cell (p:=⟨tb,_,none⟩) hbr).trans p0
     have HB5:=Lib.hid hb5
     have hk4i:(k:Int) < 4:=by omega
     clear hW5 hbn hb4 hb5
     (refine hK.out _ _ hS5 (fun hHeld=>?_);clear hK K;(try simp only [Act.put,List.setIfInBounds_toArray,List.set]))
     (refine hnow 16 ?_);(refine hnow 17 ?_);(refine hnow 18 ?_);(refine hnow 19 ?_);(try simp only [Act.put,List.setIfInBounds_toArray,List.set])
     refine wpAnyH_done (by kernel_rfl) ?_ _
     have TR5:=Lib.hid (TR.out.later HB5.out)
     have HBW5:=Lib.hid (HBW.out.trans (HB5.out.mono HBW.out.size))
     clear hS5 hq hHeld p0
     obtain ⟨ca,fa,za⟩:=TR5.out.a
     obtain ⟨cb,fb,zb⟩:=TR5.out.b
     have hlow:=TR5.out.low
     have p2:=(HB5.out.cell (p:=⟨tb,_,none⟩) hbr).trans p2
     have hbr:=Nat.lt_of_lt_of_le hbr HB5.out.size
     go_wp2_with fail
     go_region
     go_wp2
     refine bodyPost_ret (v:=.tuple #[pv (.slice a0 p.l.length c0) (.slice a1 p.g.length c1) (.slice a2 p.h.length c2) (.slice a3 zs.length c3),.int .i64 l[k].col,.int .i64 2]) (by simp [results,Tryz.results70,go_sem,cb]) rfl ?_
     refine ⟨_,_,_,_,zs,by rw [E.out,BT.out],⟨⟨_,_,_,rfl⟩,⟨_,_,_,rfl⟩,⟨_,_,_,rfl⟩,⟨_,_,_,rfl⟩⟩,fun h=>absurd h (by rw [E.out,BT.out];exact (by decide:¬ (2:Int)=0)),?_⟩
     have hb4:=hlow
     (repeat' (first | with_reducible exact Below.refl _ _ | with_reducible assumption | with_reducible (refine Below.setCell ?_ ?_ _) | with_reducible (refine Below.alloc ?_ ?_ _) | with_reducible (refine below_drew ?_) | with_reducible (refine below_drewN ?_ _) | with_reducible (refine Below.trans ?_ (Below.mono (by assumption) ?_)) | omega | (simp;done) | (simp;omega)))
   ·have d2:decide ((k:Int) < 4)=false:=by (rw [decide_eq_false_iff_not];omega)
    have BT:=Lib.hid (RES.out _ (HB.out.trans (bound_many hlt h4)))
    obtain ⟨ca,fa,za⟩:=TR.out.a
    obtain ⟨cb,fb,zb⟩:=TR.out.b
    have hlow:=TR.out.low
    clear h4
    go_wp2_with fail
    go_big_quiet (fail)
    go_wp2_with fail
    go_region
    go_wp2
    refine bodyPost_ret (v:=.tuple #[pv (.slice a0 p.l.length c0) (.slice a1 p.g.length c1) (.slice a2 p.h.length c2) (.slice a3 zs.length c3),.int .i64 l[k].col,.int .i64 2]) (by simp [results,Tryz.results70,go_sem,cb]) rfl ?_
    refine ⟨_,_,_,_,zs,by rw [E.out,BT.out],⟨⟨_,_,_,rfl⟩,⟨_,_,_,rfl⟩,⟨_,_,_,rfl⟩,⟨_,_,_,rfl⟩⟩,fun h=>absurd h (by rw [E.out,BT.out];exact (by decide:¬ (2:Int)=0)),?_⟩
    have hb4:=hlow
    (repeat' (first | with_reducible exact Below.refl _ _ | with_reducible assumption | with_reducible (refine Below.setCell ?_ ?_ _) | with_reducible (refine Below.alloc ?_ ?_ _) | with_reducible (refine below_drew ?_) | with_reducible (refine below_drewN ?_ _) | with_reducible (refine Below.trans ?_ (Below.mono (by assumption) ?_)) | omega | (simp;done) | (simp;omega)))
  ·have HN:boundG [2,1,3,2] l=none:=HB.out.trans (by rw [show l.drop k=[] from List.drop_eq_nil_of_le (by omega)];exact bound_nil _)
   obtain rfl:k=l.length:=by omega
   have d1:decide ((l.length:Int) < (l.length:Int))=false:=by (rw [decide_eq_false_iff_not];omega)
   by_cases h4:l.length < 4
   ·have BT:=Lib.hid (RES2.out HN h4)
    have d4:decide ((l.length:Int) < 4)=true:=by (rw [decide_eq_true_iff];omega)
    clear h4 HN
    go_wp2_with fail
    go_big_quiet (fail)
    go_wp2_with fail
    have T4:=Lib.hid (TR.out.later (below_drew (below_of_drewN nq)))
    refine wp_region_held_drew (S:=fun W => ∀ o,W.cell? ⟨w.heap.size,o,none⟩=(#[.slice a0 p.l.length c0,.slice a1 p.g.length c1,.slice a2 p.h.length c2,.slice a3 zs.length c3]:Array Value)[o]?) (by kernel_rfl) T4.out.a.1 (fun hHeld=>?_)
    obtain ⟨W4,hW4⟩:∃ X,X=(wr.drewN nq).drew:=⟨_,rfl⟩
    rw [← hW4] at T4 hHeld ⊢
    clear hW4
    (refine hyes 0 ?_);(refine hyes 1 ?_);(try simp only [Act.put,List.setIfInBounds_toArray,List.set])
    (refine held_call 2 rfl (by kernel_rfl) (fun K hK=>?_);go_simp)
    go_at_call 132;refine (EN.out _).mono ?_;rintro e wz ⟨rfl,rfl⟩
    (refine hK.out _ _ T4.out.a.1 (fun hHeld=>?_);clear hK K;(try simp only [Act.put,List.setIfInBounds_toArray,List.set]))
    obtain ⟨cb,fb,zb⟩:=T4.out.b
    (refine held_call 3 rfl (by kernel_rfl) (fun K hK=>?_);go_simp)
    (refine hK.out _ _ (((((T4.out.a.setOther (g':=w.heap.size+1) (o:=0) (.slice a0 p.l.length c0) (by omega)).setOther (g':=w.heap.size+1) (o:=1) (.slice a1 p.g.length c1) (by omega)).setOther (g':=w.heap.size+1) (o:=2) (.slice a2 p.h.length c2) (by omega)).setOther (g':=w.heap.size+1) (o:=3) (.slice a3 zs.length c3) (by omega))).1 (fun hHeld=>?_);clear hK K;(try simp only [Act.put,List.setIfInBounds_toArray,List.set]))
    (refine hyes 4 ?_);(refine hyes 5 ?_);(try simp only [Act.put,List.setIfInBounds_toArray,List.set])
    refine wpAnyH_done (by kernel_rfl) ?_ _
    have hlow:=T4.out.low
    obtain ⟨ca,fa,za⟩:=T4.out.a
    go_wp2
    refine bodyPost_ret (v:=.tuple #[pv (.slice a0 p.l.length c0) (.slice a1 p.g.length c1) (.slice a2 p.h.length c2) (.slice a3 zs.length c3),.int .i64 en,.int .i64 3]) (by simp [results,Tryz.results70,go_sem,cb]) rfl ?_
    refine ⟨_,_,_,_,zs,by rw [E.out,BT.out],⟨⟨_,_,_,rfl⟩,⟨_,_,_,rfl⟩,⟨_,_,_,rfl⟩,⟨_,_,_,rfl⟩⟩,fun h=>absurd h (by rw [E.out,BT.out];exact (by decide:¬ (3:Int)=0)),?_⟩
    have hb4:=hlow
    (repeat' (first | with_reducible exact Below.refl _ _ | with_reducible assumption | with_reducible (refine Below.setCell ?_ ?_ _) | with_reducible (refine Below.alloc ?_ ?_ _) | with_reducible (refine below_drew ?_) | with_reducible (refine below_drewN ?_ _) | with_reducible (refine Below.trans ?_ (Below.mono (by assumption) ?_)) | omega | (simp;done) | (simp;omega)))
   ·have BT:=Lib.hid (RES3.out HN h4)
    have hl4:l.length=4:=by omega
    have d4:decide ((l.length:Int) < 4)=false:=by (rw [decide_eq_false_iff_not];omega)
    have h1:1 < l.length:=by omega
    have h3:3 < l.length:=by omega
    obtain ⟨_,p1,_⟩:=tok_cells (w:=wr) (Sl.cells_later HBW.out hb1 HX1.out) 1 h1
    obtain ⟨_,p3,_⟩:=tok_cells (w:=wr) (Sl.cells_later HBW.out hb1 HX1.out) 3 h3
    have hbr:tb < wr.heap.size:=Nat.lt_of_lt_of_le hb1 HBW.out.size
    have T1:=Lib.hid (txQ_at h1)
    have T3:=Lib.hid (txQ_at h3)
    rw [T1.out,T3.out] at BT
    simp only [Nat.reduceMul] at p1 p3
    generalize l[1].text=t1 at *
    generalize l[3].text=t3 at *
    have hl4:=Lib.hid hl4
    clear h4 HN T1 T3
    go_wp2_with fail
    go_big_quiet (fail)
    go_wp2_with fail
    refine wp_region_last (S:=fun W=>W.cell? ⟨tb,off+3+1,none⟩=some (.string ⟨t1.toArray⟩)∧W.cell? ⟨tb,off+9+1,none⟩=some (.string ⟨t3.toArray⟩)) 10 (by kernel_rfl) ⟨p1,p3⟩ (fun hHeld=>?_)
    have hd:Below wr.heap.size wr ((wr.drewN nq).drew):=below_drew (below_of_drewN nq)
    have T4:=Lib.hid (TR.out.later hd)
    have q1:((wr.drewN nq).drew).cell? ⟨tb,off+3+1,none⟩=some (.string ⟨t1.toArray⟩):=p1
    have q3:((wr.drewN nq).drew).cell? ⟨tb,off+9+1,none⟩=some (.string ⟨t3.toArray⟩):=p3
    have hbr4:tb < ((wr.drewN nq).drew).heap.size:=hbr
    obtain ⟨W4,hW4⟩:∃ X,X=(wr.drewN nq).drew:=⟨_,rfl⟩
    rw [← hW4] at T4 q1 q3 hbr4 hHeld ⊢
    clear hW4 hd p1 p3
    (refine lyes 0 ?_);(refine lyes 1 ?_);(refine lyes 2 ?_);(refine lyes 3 ?_);(refine lyes 4 ?_);(refine lyes 5 ?_);(refine lyes 6 ?_);(refine lyes 7 ?_);(refine lyes 8 ?_);(try simp only [Act.put,List.setIfInBounds_toArray,List.set])
    (refine last_call 9 rfl (by kernel_rfl) (fun K hK=>?_);go_simp)
    have hbq:Below W4.heap.size W4 (W4.alloc (.cells #[.string emp,.string emp] 78)):=(Below.refl _ _).alloc (Nat.le_refl _) _
    have HX5:=Lib.hid (Blk.new W4 #[.string emp,.string emp] 78)
    have T5:=Lib.hid (T4.out.later hbq)
    have q1:=(hbq.cell (p:=⟨tb,off+3+1,none⟩) hbr4).trans q1
    have q3:=(hbq.cell (p:=⟨tb,off+9+1,none⟩) hbr4).trans q3
    obtain ⟨W5,hW5⟩:∃ X,X=W4.alloc (.cells #[.string emp,.string emp] 78):=⟨_,rfl⟩
    obtain ⟨bx,hbx⟩:∃ X,X=W4.heap.size:=⟨_,rfl⟩
    have hbx0:w.heap.size+1 < bx:=by rw [hbx];exact T4.out.b.2.2
    rw [← hbx] at HX5 ⊢
    rw [← hW5] at HX5 T5 q1 q3 ⊢
    clear hW5 hbx hbq
    (refine hK.out _ _ ⟨q1,q3⟩ (fun hHeld=>?_);clear hK K;(try simp only [Act.put,List.setIfInBounds_toArray,List.set]))
    obtain ⟨cn,fn,zn⟩:=HX5.out
    (refine last_end 10 rfl (by kernel_rfl) (by kernel_rfl) (fun K hK=>?_);go_simp)
    clear cn fn zn q1 q3
    refine hK.out _ _ ?_
    clear hK K
    have HX6:=Lib.hid (show Blk ((W5.setCell ⟨bx,0,none⟩ (.string ⟨t1.toArray⟩)).setCell ⟨bx,1,none⟩ (.string ⟨t3.toArray⟩)) bx #[.string ⟨t1.toArray⟩,.string ⟨t3.toArray⟩] from ((HX5.out.put (o:=0) (v:=.string ⟨t1.toArray⟩) (by simp)).put (o:=1) (v:=.string ⟨t3.toArray⟩) (by simp)).congr rfl)
    have HB6:=Lib.hid ((T5.out.low.setCell (p:=⟨bx,0,none⟩) (by dsimp only;omega) (.string ⟨t1.toArray⟩)).setCell (p:=⟨bx,1,none⟩) (by dsimp only;omega) (.string ⟨t3.toArray⟩))
    have HT3:=Lib.hid (show TwoAt w #[.slice a0 p.l.length c0,.slice a1 p.g.length c1,.slice a2 p.h.length c2,.slice a3 zs.length c3] #[nilV,nilV,nilV,nilV] ((W5.setCell ⟨bx,0,none⟩ (.string ⟨t1.toArray⟩)).setCell ⟨bx,1,none⟩ (.string ⟨t3.toArray⟩)) from ⟨(T5.out.a.setOther (g':=bx) (o:=0) (.string ⟨t1.toArray⟩) (by omega)).setOther (g':=bx) (o:=1) (.string ⟨t3.toArray⟩) (by omega),(T5.out.b.setOther (g':=bx) (o:=0) (.string ⟨t1.toArray⟩) (by omega)).setOther (g':=bx) (o:=1) (.string ⟨t3.toArray⟩) (by omega),HB6.out⟩)
    obtain ⟨W3,hW3⟩:∃ X,X=(W5.setCell ⟨bx,0,none⟩ (.string ⟨t1.toArray⟩)).setCell ⟨bx,1,none⟩ (.string ⟨t3.toArray⟩):=⟨_,rfl⟩
    rw [← hW3] at HX6 HB6 HT3 ⊢
    clear hW3 T4 T5 HX5
    have HX3:=HX6
    have HB3:=HB6
    have HP3:=Lib.hid (HPD.out.below HB3.out)
    have HLN:=Lib.hid HL2.out
    obtain ⟨x1,hx1⟩:∃ X:ByteArray,X=⟨t1.toArray⟩:=⟨_,rfl⟩
    obtain ⟨x2,hx2⟩:∃ X:ByteArray,X=⟨t3.toArray⟩:=⟨_,rfl⟩
    rw [← hx1,← hx2] at BT HX3
    have E:=Lib.hid (show res=({ p with h:=insAllR [] (p.h++[⟨x1,x2⟩]) },0,0) by rw [E.out,BT.out])
    obtain ⟨LN,hLN⟩:∃ X,X=insAllR [] (p.h++[⟨x1,x2⟩]):=⟨_,rfl⟩
    rw [← hLN] at E
    have HNW:=Lib.hid hLN
    clear hLN
    rw [← hx1,← hx2]
    clear hx1 hx2 HX6 HB6 BT TR HBW HB RES RES2 RES3
    go_wp2_with fail
    refine wp_region_last (S:=fun W=>(∀ o,W.cell? ⟨w.heap.size,o,none⟩=(#[.slice a0 p.l.length c0,.slice a1 p.g.length c1,.slice a2 p.h.length c2,.slice a3 zs.length c3]:Array Value)[o]?)∧(∀ o,W.cell? ⟨bx,o,none⟩=(#[.string x1,.string x2]:Array Value)[o]?)) 9 (by kernel_rfl) ⟨(HT3.out.drew).a.1,(HX3.out.below (below_drew (Below.refl _ _))).1⟩ (fun hHeld=>?_)
    have hd:=below_drew (Below.refl W3.heap.size W3)
    have HS0:=Lib.hid (HT3.out.later hd).a
    have HS1:=Lib.hid (HX3.out.below hd)
    have HRW:=Lib.hid (HP3.out.rh.below hd)
    have HTZ:=Lib.hid (HT3.out.later hd)
    have HBZ:=Lib.hid (HB3.out.trans (hd.mono HB3.out.size))
    have HPZ:=Lib.hid (HP3.out.below hd)

    obtain ⟨WZ,hWZ⟩:∃ X,X=W3.drew:=⟨_,rfl⟩
    rw [← hWZ] at HS0 HS1 HRW HTZ HBZ HPZ hHeld ⊢
    clear hd hWZ HT3 HX3 HB3 HP3
    have HZ:=Lib.hid (Below.refl WZ.heap.size WZ)
    obtain ⟨inf,hin,hs0,hs1,hs2⟩:=info_parts rl_info'
    have HIN:=Lib.hid hin
    clear hin
    (refine lyes 1 ?_);(refine lyes 2 ?_);(refine lyes 4 ?_);(try simp only [Act.put,List.setIfInBounds_toArray,List.set])
    refine last_two 0 5 rfl rfl (by kernel_rfl) (fun K hK=>?_) (fun K hK=>?_)
    ·go_simp
     obtain ⟨V1,hV1⟩:∃ X,X=WZ.alloc (.cells #[] 78):=⟨_,rfl⟩
     rw [← hV1]
     have hbq:Below WZ.heap.size WZ V1:=by rw [hV1];exact (Below.refl _ _).alloc (Nat.le_refl _) _
     have HZ:=Lib.hid (HZ.out.trans (hbq.mono HZ.out.size))
     have HR:=Lib.hid (show V1.ownsRow WZ.heap.size 78 2 (.slice (some ⟨WZ.heap.size,0,none⟩) 0 0) 0 [] by rw [hV1];exact World.ownsRow_made WZ #[] 0 (Nat.le_refl _) (Nat.zero_le _) (by simp))
     clear hbq hV1
     (refine hK.out _ _ ⟨(HS0.out.below HZ.out).1,(HS1.out.below HZ.out).1⟩ (fun hHeld=>?_);clear hK K;(try simp only [Act.put,List.setIfInBounds_toArray,List.set]))
     refine last_two 3 5 rfl rfl (by kernel_rfl) (fun K hK=>?_) (fun K hK=>?_)
     ·refine step_row rfl _ _ 23 rfl WZ.heap.size 78 inf _ 2 32 Tryz.underlying23 HIN.out hs0 hs1 hs2 (by decide) rfl (by decide) _ 0 _ rfl HR.out _ p.h.length _ rfl (HRW.out.below HZ.out) (rls_one _) (by have:=HLN.out;omega) HZ.out.size ?_
      intro a3' c3' V2 hown3 hg3
      simp only [Nat.zero_add,List.nil_append] at hown3 ⊢
      have HZ:=Lib.hid (below_own HZ.out HR.out hg3 HZ.out.size (Nat.le_refl _))
      have HR:=Lib.hid hown3
      clear hown3 hg3
      (refine hK.out _ _ ⟨(HS0.out.below HZ.out).1,(HS1.out.below HZ.out).1⟩ (fun hHeld=>?_);clear hK K;(try simp only [Act.put,List.setIfInBounds_toArray,List.set]))
      (refine last_call 5 rfl (by kernel_rfl) (fun K hK=>?_);go_simp)
      have HT:Hid (RowsTwo WZ _ _ _ _ _ _ _ _ (V2.alloc (.cells #[.string x1,.string x2] 78))):=Lib.hid (RowsTwo.one (cs:=Rl.cells ⟨x1,x2⟩) (m:=1) HZ.out HR.out rfl (by decide))
      obtain ⟨V3,hV3⟩:∃ X,X=V2.alloc (.cells #[.string x1,.string x2] 78):=⟨_,rfl⟩
      rw [← hV3]
      have hbq:Below V2.heap.size V2 V3:=by rw [hV3];exact (Below.refl _ _).alloc (Nat.le_refl _) _
      have HZ:=Lib.hid (HZ.out.trans (hbq.mono HZ.out.size))
      rw [← hV3] at HT
      clear hbq hV3 HR
      (refine hK.out _ _ ⟨(HS0.out.below HZ.out).1,(HS1.out.below HZ.out).1⟩ (fun hHeld=>?_);clear hK K;(try simp only [Act.put,List.setIfInBounds_toArray,List.set]))
      refine last_call 6 rfl (by kernel_rfl) (fun K hK=>?_)
      refine step_rowE rfl _ _ 23 rfl WZ.heap.size 78 inf _ 2 32 Tryz.underlying23 HIN.out hs0 hs1 hs2 (by decide) rfl (by decide) _ (p.h.length) _ rfl HT.out.o1 _ 1 _ rfl (Sl.of_own HT.out.o2).a (rlc_one _) (by have:=HLN.out;omega) HT.out.low.size ?_
      intro a6 c6 V6 hown6 hg6 hne6
      have HZ:=Lib.hid (below_own HT.out.low HT.out.o1 hg6 HT.out.low.size (Nat.le_refl _))
      have HO6:=Lib.hid hown6
      clear hg6 hne6 hown6 HT
      (refine hK.out _ _ ⟨(HS0.out.below HZ.out).1,(HS1.out.below HZ.out).1⟩ (fun hHeld=>?_);clear hK K;(try simp only [Act.put,List.setIfInBounds_toArray,List.set]))
      (refine last_call 7 rfl (by kernel_rfl) (fun K hK=>?_);go_simp)
      go_at_call 18;refine (ref5_Sort _ (p.h++[⟨x1,x2⟩]) _ (by rw [List.length_append,List.flatMap_append];simpa using (Sl.of_own HO6.out).a) (by have:=HLN.out;simp;omega)).mono ?_;rintro e V7 ⟨v7,rfl,hs7,hb7⟩
      rw [← HNW.out] at hs7
      obtain ⟨a7,c7,rfl⟩:=hs7.form
      have HS7:=Lib.hid hs7
      have HZ:=Lib.hid (HZ.out.trans (hb7.mono HZ.out.size))
      clear hs7 hb7 HO6
      (refine hK.out _ _ ⟨(HS0.out.below HZ.out).1,(HS1.out.below HZ.out).1⟩ (fun hHeld=>?_);clear hK K;(try simp only [Act.put,List.setIfInBounds_toArray,List.set]))
      (refine lyes 8 ?_);(try simp only [Act.put,List.setIfInBounds_toArray,List.set])
      obtain ⟨cg,fg,zg⟩:=HS0.out.below HZ.out
      (refine last_end 9 rfl (by kernel_rfl) (by kernel_rfl) (fun K hK=>?_);go_simp)
      clear cg fg zg
      have HBV:=Lib.hid (HBZ.out.trans (HZ.out.mono HBZ.out.size))
      have HTF:=Lib.hid (HTZ.out.later HZ.out)
      have ha0:=Lib.hid (HTF.out.a.put (o:=2) (v:=(.slice a7 LN.length c7)) (by simp))
      have hb0:=Lib.hid (HTF.out.b.setOther (g':=w.heap.size) (o:=2) (.slice a7 LN.length c7) (by omega))
      have HBF:=Lib.hid (HBV.out.setCell (p:=⟨w.heap.size,2,none⟩) (Nat.le_refl _) (.slice a7 LN.length c7))
      have HNF:=Lib.hid (HS7.out.set (o:=2) (x:=(.slice a7 LN.length c7)) (blkS4 HTF.out.a rfl rfl rfl rfl) (rl_noSl _))
      have HSB:=Lib.hid (blkS4 hb0.out rfl rfl rfl rfl)
      clear HS7
      clear HBV HTF HTZ HBZ HPZ HZ HS0 HS1 HRW
      refine hK.out _ _ ?_
      clear hK K
      obtain ⟨wd,hwd2⟩:∃ X,X=V7.setCell ⟨w.heap.size,2,none⟩ (.slice a7 LN.length c7):=⟨_,rfl⟩
      rw [← hwd2] at ha0 hb0 HBF HNF HSB ⊢
      clear hwd2
      obtain ⟨ca,fa,za⟩:=ha0.out
      obtain ⟨cb,fb,zb⟩:=hb0.out
      go_wp2
      refine bodyPost_ret (v:=.tuple #[pv (.slice a0 p.l.length c0) (.slice a1 p.g.length c1) (.slice a7 LN.length c7) (.slice a3 zs.length c3),.int .i64 0,.int .i64 0]) (by simp [results,Tryz.results70,go_sem,cb]) rfl ?_
      refine ⟨_,_,_,_,zs,by rw [E.out],⟨⟨_,_,_,rfl⟩,⟨_,_,_,rfl⟩,⟨_,_,_,rfl⟩,⟨_,_,_,rfl⟩⟩,fun _=>?_,below_puts (g:=w.heap.size+1) (by omega) [(.slice a0 p.l.length c0),(.slice a1 p.g.length c1),(.slice a7 LN.length c7),(.slice a3 zs.length c3)] 0 wd HBF.out⟩
      rw [E.out]
      exact (HPD.out.below (below_puts (g:=w.heap.size+1) (by omega) [(.slice a0 p.l.length c0),(.slice a1 p.g.length c1),(.slice a7 LN.length c7),(.slice a3 zs.length c3)] 0 wd HBF.out)).hh (Sl.puts (rl_noSl _) [(.slice a0 p.l.length c0),(.slice a1 p.g.length c1),(.slice a7 LN.length c7),(.slice a3 zs.length c3)] 0 wd HNF.out HSB.out (by simp) (by simp [isSl])).a
     ·go_simp
      have HT:Hid (RowsTwo WZ _ _ _ _ _ _ _ _ (V1.alloc (.cells #[.string x1,.string x2] 78))):=Lib.hid (RowsTwo.one (cs:=Rl.cells ⟨x1,x2⟩) (m:=1) HZ.out HR.out rfl (by decide))
      obtain ⟨V2,hV2⟩:∃ X,X=V1.alloc (.cells #[.string x1,.string x2] 78):=⟨_,rfl⟩
      rw [← hV2]
      have hbq:Below V1.heap.size V1 V2:=by rw [hV2];exact (Below.refl _ _).alloc (Nat.le_refl _) _
      have HZ:=Lib.hid (HZ.out.trans (hbq.mono HZ.out.size))
      rw [← hV2] at HT
      clear hbq hV2 HR
      (refine hK.out _ _ ⟨(HS0.out.below HZ.out).1,(HS1.out.below HZ.out).1⟩ (fun hHeld=>?_);clear hK K;(try simp only [Act.put,List.setIfInBounds_toArray,List.set]))
      refine last_call 3 rfl (by kernel_rfl) (fun K hK=>?_)
      refine step_rowE rfl _ _ 23 rfl WZ.heap.size 78 inf _ 2 32 Tryz.underlying23 HIN.out hs0 hs1 hs2 (by decide) rfl (by decide) _ 0 _ rfl HT.out.o1 _ p.h.length _ rfl (HRW.out.below HZ.out) (rls_one _) (by have:=HLN.out;omega) HZ.out.size ?_
      intro a3' c3' V3 hown3 hg3 hne3
      simp only [Nat.zero_add,List.nil_append] at hown3 hne3 ⊢
      have HT:=Lib.hid (HT.out.grow1 hown3 hg3 hne3)
      have HZ:=Lib.hid HT.out.low
      clear hown3 hg3 hne3
      (refine hK.out _ _ ⟨(HS0.out.below HZ.out).1,(HS1.out.below HZ.out).1⟩ (fun hHeld=>?_);clear hK K;(try simp only [Act.put,List.setIfInBounds_toArray,List.set]))
      refine last_call 6 rfl (by kernel_rfl) (fun K hK=>?_)
      refine step_rowE rfl _ _ 23 rfl WZ.heap.size 78 inf _ 2 32 Tryz.underlying23 HIN.out hs0 hs1 hs2 (by decide) rfl (by decide) _ (p.h.length) _ rfl HT.out.o1 _ 1 _ rfl (Sl.of_own HT.out.o2).a (rlc_one _) (by have:=HLN.out;omega) HT.out.low.size ?_
      intro a6 c6 V6 hown6 hg6 hne6
      have HZ:=Lib.hid (below_own HT.out.low HT.out.o1 hg6 HT.out.low.size (Nat.le_refl _))
      have HO6:=Lib.hid hown6
      clear hg6 hne6 hown6 HT
      (refine hK.out _ _ ⟨(HS0.out.below HZ.out).1,(HS1.out.below HZ.out).1⟩ (fun hHeld=>?_);clear hK K;(try simp only [Act.put,List.setIfInBounds_toArray,List.set]))
      (refine last_call 7 rfl (by kernel_rfl) (fun K hK=>?_);go_simp)
      go_at_call 18;refine (ref5_Sort _ (p.h++[⟨x1,x2⟩]) _ (by rw [List.length_append,List.flatMap_append];simpa using (Sl.of_own HO6.out).a) (by have:=HLN.out;simp;omega)).mono ?_;rintro e V7 ⟨v7,rfl,hs7,hb7⟩
      rw [← HNW.out] at hs7
      obtain ⟨a7,c7,rfl⟩:=hs7.form
      have HS7:=Lib.hid hs7
      have HZ:=Lib.hid (HZ.out.trans (hb7.mono HZ.out.size))
      clear hs7 hb7 HO6
      (refine hK.out _ _ ⟨(HS0.out.below HZ.out).1,(HS1.out.below HZ.out).1⟩ (fun hHeld=>?_);clear hK K;(try simp only [Act.put,List.setIfInBounds_toArray,List.set]))
      (refine lyes 8 ?_);(try simp only [Act.put,List.setIfInBounds_toArray,List.set])
      obtain ⟨cg,fg,zg⟩:=HS0.out.below HZ.out
      (refine last_end 9 rfl (by kernel_rfl) (by kernel_rfl) (fun K hK=>?_);go_simp)
      clear cg fg zg
      have HBV:=Lib.hid (HBZ.out.trans (HZ.out.mono HBZ.out.size))
      have HTF:=Lib.hid (HTZ.out.later HZ.out)
      have ha0:=Lib.hid (HTF.out.a.put (o:=2) (v:=(.slice a7 LN.length c7)) (by simp))
      have hb0:=Lib.hid (HTF.out.b.setOther (g':=w.heap.size) (o:=2) (.slice a7 LN.length c7) (by omega))
      have HBF:=Lib.hid (HBV.out.setCell (p:=⟨w.heap.size,2,none⟩) (Nat.le_refl _) (.slice a7 LN.length c7))
      have HNF:=Lib.hid (HS7.out.set (o:=2) (x:=(.slice a7 LN.length c7)) (blkS4 HTF.out.a rfl rfl rfl rfl) (rl_noSl _))
      have HSB:=Lib.hid (blkS4 hb0.out rfl rfl rfl rfl)
      clear HS7
      clear HBV HTF HTZ HBZ HPZ HZ HS0 HS1 HRW
      refine hK.out _ _ ?_
      clear hK K
      obtain ⟨wd,hwd2⟩:∃ X,X=V7.setCell ⟨w.heap.size,2,none⟩ (.slice a7 LN.length c7):=⟨_,rfl⟩
      rw [← hwd2] at ha0 hb0 HBF HNF HSB ⊢
      clear hwd2
      obtain ⟨ca,fa,za⟩:=ha0.out
      obtain ⟨cb,fb,zb⟩:=hb0.out
      go_wp2
      refine bodyPost_ret (v:=.tuple #[pv (.slice a0 p.l.length c0) (.slice a1 p.g.length c1) (.slice a7 LN.length c7) (.slice a3 zs.length c3),.int .i64 0,.int .i64 0]) (by simp [results,Tryz.results70,go_sem,cb]) rfl ?_
      refine ⟨_,_,_,_,zs,by rw [E.out],⟨⟨_,_,_,rfl⟩,⟨_,_,_,rfl⟩,⟨_,_,_,rfl⟩,⟨_,_,_,rfl⟩⟩,fun _=>?_,below_puts (g:=w.heap.size+1) (by omega) [(.slice a0 p.l.length c0),(.slice a1 p.g.length c1),(.slice a7 LN.length c7),(.slice a3 zs.length c3)] 0 wd HBF.out⟩
      rw [E.out]
      exact (HPD.out.below (below_puts (g:=w.heap.size+1) (by omega) [(.slice a0 p.l.length c0),(.slice a1 p.g.length c1),(.slice a7 LN.length c7),(.slice a3 zs.length c3)] 0 wd HBF.out)).hh (Sl.puts (rl_noSl _) [(.slice a0 p.l.length c0),(.slice a1 p.g.length c1),(.slice a7 LN.length c7),(.slice a3 zs.length c3)] 0 wd HNF.out HSB.out (by simp) (by simp [isSl])).a
    ·go_simp
     have HO:Hid ((WZ.alloc (.cells #[.string x1,.string x2] 78)).ownsRow WZ.heap.size _ _ _ _ _):=Lib.hid (own_alloc1 (w0:=WZ) (w:=WZ) (e:=78) (size:=2) (m:=1) (cs:=Rl.cells ⟨x1,x2⟩) (Nat.le_refl _) rfl (by decide))
     obtain ⟨V1,hV1⟩:∃ X,X=WZ.alloc (.cells #[.string x1,.string x2] 78):=⟨_,rfl⟩
     rw [← hV1]
     have hbq:Below WZ.heap.size WZ V1:=by rw [hV1];exact (Below.refl _ _).alloc (Nat.le_refl _) _
     have HZ:=Lib.hid (HZ.out.trans (hbq.mono HZ.out.size))
     rw [← hV1] at HO
     clear hbq hV1
     (refine hK.out _ _ ⟨(HS0.out.below HZ.out).1,(HS1.out.below HZ.out).1⟩ (fun hHeld=>?_);clear hK K;(try simp only [Act.put,List.setIfInBounds_toArray,List.set]))
     (refine last_call 0 rfl (by kernel_rfl) (fun K hK=>?_);go_simp)
     have HT:=Lib.hid (RowsTwo.new HZ.out HO.out).swap
     obtain ⟨V2,hV2⟩:∃ X,X=V1.alloc (.cells #[] 78):=⟨_,rfl⟩
     rw [← hV2]
     have hbq:Below V1.heap.size V1 V2:=by rw [hV2];exact (Below.refl _ _).alloc (Nat.le_refl _) _
     have HZ:=Lib.hid (HZ.out.trans (hbq.mono HZ.out.size))
     rw [← hV2] at HT
     clear hbq hV2 HO
     (refine hK.out _ _ ⟨(HS0.out.below HZ.out).1,(HS1.out.below HZ.out).1⟩ (fun hHeld=>?_);clear hK K;(try simp only [Act.put,List.setIfInBounds_toArray,List.set]))
     refine last_call 3 rfl (by kernel_rfl) (fun K hK=>?_)
     refine step_rowE rfl _ _ 23 rfl WZ.heap.size 78 inf _ 2 32 Tryz.underlying23 HIN.out hs0 hs1 hs2 (by decide) rfl (by decide) _ 0 _ rfl HT.out.o1 _ p.h.length _ rfl (HRW.out.below HZ.out) (rls_one _) (by have:=HLN.out;omega) HZ.out.size ?_
     intro a3' c3' V3 hown3 hg3 hne3
     simp only [Nat.zero_add,List.nil_append] at hown3 hne3 ⊢
     have HT:=Lib.hid (HT.out.grow1 hown3 hg3 hne3)
     have HZ:=Lib.hid HT.out.low
     clear hown3 hg3 hne3
     (refine hK.out _ _ ⟨(HS0.out.below HZ.out).1,(HS1.out.below HZ.out).1⟩ (fun hHeld=>?_);clear hK K;(try simp only [Act.put,List.setIfInBounds_toArray,List.set]))

     refine last_call 6 rfl (by kernel_rfl) (fun K hK=>?_)
     refine step_rowE rfl _ _ 23 rfl WZ.heap.size 78 inf _ 2 32 Tryz.underlying23 HIN.out hs0 hs1 hs2 (by decide) rfl (by decide) _ (p.h.length) _ rfl HT.out.o1 _ 1 _ rfl (Sl.of_own HT.out.o2).a (rlc_one _) (by have:=HLN.out;omega) HT.out.low.size ?_
     intro a6 c6 V6 hown6 hg6 hne6
     have HZ:=Lib.hid (below_own HT.out.low HT.out.o1 hg6 HT.out.low.size (Nat.le_refl _))
     have HO6:=Lib.hid hown6
     clear hg6 hne6 hown6 HT
     (refine hK.out _ _ ⟨(HS0.out.below HZ.out).1,(HS1.out.below HZ.out).1⟩ (fun hHeld=>?_);clear hK K;(try simp only [Act.put,List.setIfInBounds_toArray,List.set]))
     (refine last_call 7 rfl (by kernel_rfl) (fun K hK=>?_);go_simp)
     go_at_call 18;refine (ref5_Sort _ (p.h++[⟨x1,x2⟩]) _ (by rw [List.length_append,List.flatMap_append];simpa using (Sl.of_own HO6.out).a) (by have:=HLN.out;simp;omega)).mono ?_;rintro e V7 ⟨v7,rfl,hs7,hb7⟩
     rw [← HNW.out] at hs7
     obtain ⟨a7,c7,rfl⟩:=hs7.form
     have HS7:=Lib.hid hs7
     have HZ:=Lib.hid (HZ.out.trans (hb7.mono HZ.out.size))
     clear hs7 hb7 HO6
     (refine hK.out _ _ ⟨(HS0.out.below HZ.out).1,(HS1.out.below HZ.out).1⟩ (fun hHeld=>?_);clear hK K;(try simp only [Act.put,List.setIfInBounds_toArray,List.set]))
     (refine lyes 8 ?_);(try simp only [Act.put,List.setIfInBounds_toArray,List.set])
     obtain ⟨cg,fg,zg⟩:=HS0.out.below HZ.out
     (refine last_end 9 rfl (by kernel_rfl) (by kernel_rfl) (fun K hK=>?_);go_simp)
     clear cg fg zg
     have HBV:=Lib.hid (HBZ.out.trans (HZ.out.mono HBZ.out.size))
     have HTF:=Lib.hid (HTZ.out.later HZ.out)
     have ha0:=Lib.hid (HTF.out.a.put (o:=2) (v:=(.slice a7 LN.length c7)) (by simp))
     have hb0:=Lib.hid (HTF.out.b.setOther (g':=w.heap.size) (o:=2) (.slice a7 LN.length c7) (by omega))
     have HBF:=Lib.hid (HBV.out.setCell (p:=⟨w.heap.size,2,none⟩) (Nat.le_refl _) (.slice a7 LN.length c7))
     have HNF:=Lib.hid (HS7.out.set (o:=2) (x:=(.slice a7 LN.length c7)) (blkS4 HTF.out.a rfl rfl rfl rfl) (rl_noSl _))
     have HSB:=Lib.hid (blkS4 hb0.out rfl rfl rfl rfl)
     clear HS7
     clear HBV HTF HTZ HBZ HPZ HZ HS0 HS1 HRW
     refine hK.out _ _ ?_
     clear hK K
     obtain ⟨wd,hwd2⟩:∃ X,X=V7.setCell ⟨w.heap.size,2,none⟩ (.slice a7 LN.length c7):=⟨_,rfl⟩
     rw [← hwd2] at ha0 hb0 HBF HNF HSB ⊢
     clear hwd2
     obtain ⟨ca,fa,za⟩:=ha0.out
     obtain ⟨cb,fb,zb⟩:=hb0.out
     go_wp2
     refine bodyPost_ret (v:=.tuple #[pv (.slice a0 p.l.length c0) (.slice a1 p.g.length c1) (.slice a7 LN.length c7) (.slice a3 zs.length c3),.int .i64 0,.int .i64 0]) (by simp [results,Tryz.results70,go_sem,cb]) rfl ?_
     refine ⟨_,_,_,_,zs,by rw [E.out],⟨⟨_,_,_,rfl⟩,⟨_,_,_,rfl⟩,⟨_,_,_,rfl⟩,⟨_,_,_,rfl⟩⟩,fun _=>?_,below_puts (g:=w.heap.size+1) (by omega) [(.slice a0 p.l.length c0),(.slice a1 p.g.length c1),(.slice a7 LN.length c7),(.slice a3 zs.length c3)] 0 wd HBF.out⟩
     rw [E.out]
     exact (HPD.out.below (below_puts (g:=w.heap.size+1) (by omega) [(.slice a0 p.l.length c0),(.slice a1 p.g.length c1),(.slice a7 LN.length c7),(.slice a3 zs.length c3)] 0 wd HBF.out)).hh (Sl.puts (rl_noSl _) [(.slice a0 p.l.length c0),(.slice a1 p.g.length c1),(.slice a7 LN.length c7),(.slice a3 zs.length c3)] 0 wd HNF.out HSB.out (by simp) (by simp [isSl])).a
end
section
open Go.RowKit Go.Shelf

set_option maxRecDepth 100000 in
set_option maxHeartbeats 2000000 in
theorem ref5_line_bad (s:ByteArray) (v0 v1 v2 v3:Value) (p:Pd) (zs:List (Qd × Value)) (w:World) (hp:PolD w v0 v1 v2 v3 p zs) (hs:s.size≤1000000) (hl0:p.l.length≤100) (hl1:p.g.length≤100) (hl2:p.h.length≤100) (hl3:p.q.length≤100) (hty:(tokens (bl s)).1=[]∨¬ (tokens (bl s)).2.2=0) :
  Calls Tryz.prog 70 #[pv v0 v1 v2 v3,.string s] w fun e w'=>LineR (lineP p s) w e w':=by
 have HL0:=Lib.hid hl0
 have HL1:=Lib.hid hl1
 have HL2:=Lib.hid hl2
 have HL3:=Lib.hid (show zs.length≤100 by rw [← hp.z,List.length_map] at hl3;exact hl3)
 have HPD:=Lib.hid hp
 obtain ⟨a0,c0,rfl⟩:=hp.rs.form
 obtain ⟨a1,c1,rfl⟩:=hp.rg.form
 obtain ⟨a2,c2,rfl⟩:=hp.rh.form
 obtain ⟨a3,c3,rfl⟩:=hp.rq.form
 have HT:=Lib.hid (TwoAt.new w #[.slice a0 p.l.length c0,.slice a1 p.g.length c1,.slice a2 p.h.length c2,.slice a3 zs.length c3] #[nilV,nilV,nilV,nilV] 26 26)
 have TK:=Lib.hid (fun W=>ref2_Tokens_any s W (by omega))
 have E:=Lib.hid (show lineP p s=lineT p s (tokens (bl s)) from rfl)
 generalize lineP p s=res at E ⊢
 clear hp hl0 hl1 hl2 hl3
 go_enter Tryz.func70,Tryz.ntmps70
 go_wp2_with fail
 refine (TK.out _).mono ?_
 rintro e w1 ⟨va,rfl,hown1,hb1⟩
 obtain ⟨sa,sc,rfl⟩:=own_form hown1
 have HT:=Lib.hid (HT.out.later hb1)
 clear hown1 hb1 TK
 generalize tokens (bl s)=t at *
 obtain ⟨l,ti,ty⟩:=t
 dsimp only at hty ⊢
 have hlow:=HT.out.low
 obtain ⟨ca,fa,za⟩:=HT.out.a
 obtain ⟨cb,fb,zb⟩:=HT.out.b
 by_cases h0:ty=0
 ·subst h0
  obtain rfl:l=[]:=hty.resolve_right (fun h=>h rfl)
  have E:=Lib.hid (E.out.trans lineT_nil)
  clear hty
  go_wp2
  refine bodyPost_ret (v:=.tuple #[pv (.slice a0 p.l.length c0) (.slice a1 p.g.length c1) (.slice a2 p.h.length c2) (.slice a3 zs.length c3),.int .i64 ti,.int .i64 0]) (by simp [results,Tryz.results70,go_sem,cb]) rfl ?_
  refine ⟨_,_,_,_,zs,by rw [E.out],⟨⟨_,_,_,rfl⟩,⟨_,_,_,rfl⟩,⟨_,_,_,rfl⟩,⟨_,_,_,rfl⟩⟩,fun _=>?_,?_⟩
  ·rw [E.out]
   refine HPD.out.below ?_
   have hb4:=hlow
   (repeat' (first | with_reducible exact Below.refl _ _ | with_reducible assumption | with_reducible (refine Below.setCell ?_ ?_ _) | with_reducible (refine Below.alloc ?_ ?_ _) | with_reducible (refine below_drew ?_) | with_reducible (refine below_drewN ?_ _) | with_reducible (refine Below.trans ?_ (Below.mono (by assumption) ?_)) | omega | (simp;done) | (simp;omega)))
  ·have hb4:=hlow
   (repeat' (first | with_reducible exact Below.refl _ _ | with_reducible assumption | with_reducible (refine Below.setCell ?_ ?_ _) | with_reducible (refine Below.alloc ?_ ?_ _) | with_reducible (refine below_drew ?_) | with_reducible (refine below_drewN ?_ _) | with_reducible (refine Below.trans ?_ (Below.mono (by assumption) ?_)) | omega | (simp;done) | (simp;omega)))
 ·have E:=Lib.hid (E.out.trans (lineT_bad h0))
  have hyn:=Lib.hid h0
  have d:(ty != 0)=true:=by simp [h0]
  clear h0 hty
  go_wp2
  refine bodyPost_ret (v:=.tuple #[pv (.slice a0 p.l.length c0) (.slice a1 p.g.length c1) (.slice a2 p.h.length c2) (.slice a3 zs.length c3),.int .i64 ti,.int .i64 ty]) (by simp [results,Tryz.results70,go_sem,cb]) rfl ?_
  refine ⟨_,_,_,_,zs,by rw [E.out],⟨⟨_,_,_,rfl⟩,⟨_,_,_,rfl⟩,⟨_,_,_,rfl⟩,⟨_,_,_,rfl⟩⟩,fun h=>absurd h (by rw [E.out];exact hyn.out),?_⟩
  have hb4:=hlow
  (repeat' (first | with_reducible exact Below.refl _ _ | with_reducible assumption | with_reducible (refine Below.setCell ?_ ?_ _) | with_reducible (refine Below.alloc ?_ ?_ _) | with_reducible (refine below_drew ?_) | with_reducible (refine below_drewN ?_ _) | with_reducible (refine Below.trans ?_ (Below.mono (by assumption) ?_)) | omega | (simp;done) | (simp;omega)))
theorem ref5_line (s:ByteArray) (v0 v1 v2 v3:Value) (p:Pd) (zs:List (Qd × Value)) (w:World) (hp:PolD w v0 v1 v2 v3 p zs) (hs:s.size≤1000000) (hl0:p.l.length≤100) (hl1:p.g.length≤100) (hl2:p.h.length≤100) (hl3:p.q.length≤100) :
  Calls Tryz.prog 70 #[pv v0 v1 v2 v3,.string s] w fun e w'=>LineR (lineP p s) w e w':=by
 by_cases hty:(tokens (bl s)).2.2=0
 ·cases ht:tokens (bl s) with | mk l y =>
  obtain ⟨ti,ty⟩:=y
  rw [ht] at hty
  dsimp only at hty
  subst hty
  cases l with
  | nil=>exact ref5_line_bad s v0 v1 v2 v3 p zs w hp hs hl0 hl1 hl2 hl3 (.inl (by rw [ht]))
  | cons x r =>
   by_cases a1:x.tx=wAlways
   ·exact ref5_line_ask s v0 v1 v2 v3 p zs w hp hs hl0 hl1 hl2 hl3 x r ti ht a1
   by_cases a2:x.tx=wCan
   ·exact ref5_line_can s v0 v1 v2 v3 p zs w hp hs hl0 hl1 hl2 hl3 x r ti ht a1 a2
   have a:¬ (x.tx=wAlways∨x.tx=wCan):=fun h=>h.elim a1 a2
   by_cases a3:x.tx=wGrow
   ·exact ref5_line_grow s v0 v1 v2 v3 p zs w hp hs hl0 hl1 hl2 hl3 (x :: r) ti ht (by simp) a a3
   by_cases a4:x.tx=wShrink
   ·exact ref5_line_shrink s v0 v1 v2 v3 p zs w hp hs hl0 hl1 hl2 hl3 (x :: r) ti ht (by simp) a a3 a4
   exact ref5_line_stmt s v0 v1 v2 v3 p zs w hp hs hl0 hl1 hl2 hl3 x r ti ht a a3 a4
 ·exact ref5_line_bad s v0 v1 v2 v3 p zs w hp hs hl0 hl1 hl2 hl3 (.inr hty)
end
end Go.Proofs.YtomhekohcadijaaGreatDoor
