/- Parts: PolLineS PolLineW RangeCell LinesWalk PolParse StrJoinL QPrintW PolPrint -/
import Derived.Test.YtomhekohcadijaaGreatDoorPart14
import Derived.Test.YtomhekohcadijaaGreatDoorPart10
import Derived.RangeFuncNested
import Derived.RangeFuncBound
import Derived.RangeFuncCalls
import Derived.RangeFuncLeaves
import Derived.Shelf.Abstract
import Derived.Shelf.RegionOpen
import Derived.WalkKit
import Derived.OwnWalkIn
import Derived.TacticsInMore
import Derived.LoopNIn
import Derived.LoopIn
import Derived.Test.YtomhekohcadijaaGreatDoorPart9
import Derived.Test.YtomhekohcadijaaGreatDoorShelf
import Derived.Test.YtomhekohcadijaaGreatDoorPart6
import Derived.Maps.AppendAt
import Derived.Test.YtomhekohcadijaaGreatDoorPart12
import Derived.Test.YtomhekohcadijaaGreatDoorPart7
import Derived.Test.YtomhekohcadijaaGreatDoorPart11
import Derived.Test.YtomhekohcadijaaGreatDoorPart3
namespace Go.Proofs.YtomhekohcadijaaGreatDoor
section
open Go.RowKit Go.Shelf

set_option maxRecDepth 100000 in
set_option maxHeartbeats 4000000 in
theorem maker_line_stmt (s:ByteArray) (C b:Nat) (v0 v1 v2 v3:Value) (p:Pd) (zs:List (Qd × Value)) (w:World) (hM:MkP C b w v0 v1 v2 v3 p zs) (hg:Gl w) (hs:s.size≤1000000) (hok:OkP p) (hf:fitsD p=true) (x:Tok) (r:List Tok) (ti:Int) (ht:tokens (bl s)=(x :: r,ti,0)) (t1:¬ (x.tx=wAlways∨x.tx=wCan)) (t3:¬ x.tx=wGrow) (t4:¬ x.tx=wShrink) :
  Calls Tryz.prog 68 #[.pointer (some ⟨b,0,none⟩),.string s] w fun e w'=>LineP C b w (lineP p s) e w':=by
 have HG:=Lib.hid hg
 obtain ⟨a0,c0,rfl⟩:=own_form hM.r0
 obtain ⟨a1,c1,rfl⟩:=own_form hM.r1
 obtain ⟨a2,c2,rfl⟩:=own_form hM.r2
 obtain ⟨a3,c3,rfl⟩:=own_form hM.r3
 have HM:=Lib.hid hM
 obtain ⟨n0,n1,n2,n3⟩:=fits_few hf
 have HZL:=Lib.hid (show zs.length=p.q.length by rw [← hM.z,List.length_map])
 have HF:=Lib.hid hf
 have TK:=Lib.hid (scan_Tokens_any s w hg (by omega))
 have E:=Lib.hid (show lineP p s=lineT p s (tokens (bl s)) from rfl)
 generalize lineP p s=res at E ⊢
 clear hg hf hM
 have hto:=tokens_ok (bl s)
 rw [ht] at E TK hto
 clear ht
 dsimp only at hto
 go_enter Tryz.func68,Tryz.ntmps68
 go_wp2_with fail
 refine TK.out.mono ?_
 rintro e w1 ⟨va,rfl,hown1,hb1⟩
 dsimp only at hown1
 obtain ⟨sa,sc,rfl⟩:=own_form hown1
 have HS1:=Lib.hid (Sl.of_own hown1)
 have HB1:=Lib.hid hb1
 clear hown1 hb1 TK
 have dl:((((r.length:Int)+1) == 0))=false:=by rw [beq_eq_false_iff_ne];omega
 obtain ⟨tb,off,cap,he1,hc1,hm1,hb1,hx1⟩:=HS1.out.pos (by simp)
 simp only [Value.slice.injEq] at he1
 obtain ⟨rfl,_,rfl⟩:=he1
 obtain ⟨p0,p1,p2⟩:=tk_head hx1
 have TX:=Lib.hid (show (⟨x.text.toArray⟩:ByteArray)=x.tx from rfl)
 rw [TX.out] at p1
 clear hx1 TX
 have e1:(x.tx.toList == [97,108,119,97,121,115])=false:=tx_ne (fun h=>t1 (.inl h))
 have e2:(x.tx.toList == [99,97,110])=false:=tx_ne (fun h=>t1 (.inr h))
 have e3:(x.tx.toList == [103,114,111,119])=false:=tx_ne t3
 have e4:(x.tx.toList == [115,104,114,105,110,107])=false:=tx_ne t4
 have A1:=Lib.hid t1
 have A3:=Lib.hid t3
 have A4:=Lib.hid t4
 clear t1 t3 t4
 go_wp2_with fail
 obtain ⟨WB,hWB⟩:∃ W,W=w1.alloc (.cells #[.int .i64 0,.string emp,.string emp,.string emp,.string emp,.string emp,.string emp,.string emp,.string emp] 80):=⟨_,rfl⟩
 have hbB:Below w1.heap.size w1 WB:=by rw [hWB];exact (Below.refl _ _).alloc (Nat.le_refl _) _
 have HBQ:=Lib.hid (show Blk WB w1.heap.size #[.int .i64 0,.string emp,.string emp,.string emp,.string emp,.string emp,.string emp,.string emp,.string emp] by rw [hWB];exact Blk.new w1 _ _)
 have HSZ:=Lib.hid (show WB.heap.size=w1.heap.size+1 by rw [hWB];simp)
 have HBB:=Lib.hid (HB1.out.trans (hbB.mono HB1.out.size))
 have hgq0:w.heap.size≤w1.heap.size:=HB1.out.size
 have hGB:=Lib.hid (HG.out.below HBB.out)
 have E:=Lib.hid (E.out.trans (lineT_stmt (p:=p) (s:=s) (r:=r) (i:=ti) A1.out A3.out A4.out))
 have QP:=Lib.hid (syn_Parse s WB (by omega) hGB.out)
 have HOK:=Lib.hid (fun (h:(parseS s).2.2=0)=>show OkP { p with l:=insAll [] (p.l++[(parseS s).1]) } from ⟨fun y hy=>((insAll_mem _ _ _).1 hy).elim (fun h'=>absurd h' (by simp)) (fun h'=>(List.mem_append.1 h').elim (hok.l y) (fun h'=>by rw [List.mem_singleton.1 h'];exact parse_right s h)),hok.g,hok.h,hok.q⟩)
 generalize parseS s=pq at E QP HOK
 obtain ⟨⟨k,⟨x1,x2⟩,x3,⟨x4,x5⟩,⟨x6,x7⟩,x8⟩,at0,y0⟩:=pq
 dsimp only at E QP HOK
 rw [← hWB]
 clear hWB hbB hGB
 refine QP.out.mono ?_
 rintro e w2 ⟨rfl,hb2⟩
 dsimp only
 have HB2:=Lib.hid (HBB.out.trans (hb2.mono HBB.out.size))
 have HBQ2:=Lib.hid (HBQ.out.below hb2)
 clear hb2 QP HBQ HBB
 obtain ⟨cq,fq,zq⟩:=HBQ2.out
 go_wp2_with fail
 clear cq fq zq
 have HBQ3:=Lib.hid (show Blk (((((((((w2.setCell ⟨w1.heap.size,0,none⟩ (.int .i64 k)).setCell ⟨w1.heap.size,1,none⟩ (.string x1)).setCell ⟨w1.heap.size,2,none⟩ (.string x2)).setCell ⟨w1.heap.size,3,none⟩ (.string x3)).setCell ⟨w1.heap.size,4,none⟩ (.string x4)).setCell ⟨w1.heap.size,5,none⟩ (.string x5)).setCell ⟨w1.heap.size,6,none⟩ (.string x6)).setCell ⟨w1.heap.size,7,none⟩ (.string x7)).setCell ⟨w1.heap.size,8,none⟩ (.string x8)) w1.heap.size #[.int .i64 k,.string x1,.string x2,.string x3,.string x4,.string x5,.string x6,.string x7,.string x8] from (((((((((HBQ2.out.put (o:=0) (v:=.int .i64 k) (by simp)).put (o:=1) (v:=.string x1) (by simp)).put (o:=2) (v:=.string x2) (by simp)).put (o:=3) (v:=.string x3) (by simp)).put (o:=4) (v:=.string x4) (by simp)).put (o:=5) (v:=.string x5) (by simp)).put (o:=6) (v:=.string x6) (by simp)).put (o:=7) (v:=.string x7) (by simp)).put (o:=8) (v:=.string x8) (by simp)).congr rfl)
 have HB3:=Lib.hid (((((((((HB2.out.setCell (p:=⟨w1.heap.size,0,none⟩) hgq0 (.int .i64 k)).setCell (p:=⟨w1.heap.size,1,none⟩) hgq0 (.string x1)).setCell (p:=⟨w1.heap.size,2,none⟩) hgq0 (.string x2)).setCell (p:=⟨w1.heap.size,3,none⟩) hgq0 (.string x3)).setCell (p:=⟨w1.heap.size,4,none⟩) hgq0 (.string x4)).setCell (p:=⟨w1.heap.size,5,none⟩) hgq0 (.string x5)).setCell (p:=⟨w1.heap.size,6,none⟩) hgq0 (.string x6)).setCell (p:=⟨w1.heap.size,7,none⟩) hgq0 (.string x7)).setCell (p:=⟨w1.heap.size,8,none⟩) hgq0 (.string x8))
 obtain ⟨W3,hW3⟩:∃ V,V=(((((((((w2.setCell ⟨w1.heap.size,0,none⟩ (.int .i64 k)).setCell ⟨w1.heap.size,1,none⟩ (.string x1)).setCell ⟨w1.heap.size,2,none⟩ (.string x2)).setCell ⟨w1.heap.size,3,none⟩ (.string x3)).setCell ⟨w1.heap.size,4,none⟩ (.string x4)).setCell ⟨w1.heap.size,5,none⟩ (.string x5)).setCell ⟨w1.heap.size,6,none⟩ (.string x6)).setCell ⟨w1.heap.size,7,none⟩ (.string x7)).setCell ⟨w1.heap.size,8,none⟩ (.string x8)):=⟨_,rfl⟩
 rw [← hW3] at HBQ3 HB3 ⊢
 clear hW3 HB2 HBQ2
 have HM3:=Lib.hid (HM.out.below HB3.out)
 have hCs:C≤w.heap.size:=HM.out.hC
 refine wp_region_last (S:=fun W=>(∀ o,W.cell? ⟨b,o,none⟩=(#[.slice a0 p.l.length c0,.slice a1 p.g.length c1,.slice a2 p.h.length c2,.slice a3 zs.length c3]:Array Value)[o]?)∧(∀ o,W.cell? ⟨w1.heap.size,o,none⟩=(#[.int .i64 k,.string x1,.string x2,.string x3,.string x4,.string x5,.string x6,.string x7,.string x8]:Array Value)[o]?)) 13 (by kernel_rfl) ⟨(HM3.out.blk.below (below_drew (Below.refl _ _))).1,(HBQ3.out.below (below_drew (Below.refl _ _))).1⟩ (fun hHeld=>?_)
 have hd:=below_drew (Below.refl W3.heap.size W3)
 have HM3:=Lib.hid (HM3.out.below hd)
 have HB3:=Lib.hid (HB3.out.trans (hd.mono HB3.out.size))
 have HBQ3:=Lib.hid (HBQ3.out.below hd)

 obtain ⟨W4,hW4⟩:∃ V,V=W3.drew:=⟨_,rfl⟩
 rw [← hW4] at HM3 HB3 HBQ3 hHeld ⊢
 clear hd hW4
 (refine lyes 0 ?_);(refine lyes 1 ?_);(refine lyes 2 ?_);(refine lyes 3 ?_);(refine lyes 4 ?_);(refine lyes 5 ?_);(refine lyes 6 ?_);(try simp only [Act.put,List.setIfInBounds_toArray,List.set])
 (refine last_call 7 rfl (by kernel_rfl) (fun K hK=>?_);go_simp)
 obtain ⟨W5,hW5⟩:∃ V,V=W4.alloc (.cells #[.int .i64 k,.string x1,.string x2,.string x3,.string x4,.string x5,.string x6,.string x7,.string x8] 80):=⟨_,rfl⟩
 obtain ⟨bn,hbn⟩:∃ b,b=W4.heap.size:=⟨_,rfl⟩
 rw [← hW5,← hbn]
 have hbq:Below W4.heap.size W4 W5:=by rw [hW5];exact (Below.refl _ _).alloc (Nat.le_refl _) _
 have HN1:=Lib.hid (show Sl W5 9 (.slice (some ⟨bn,0,none⟩) 1 1) 1 (St.cells ⟨k,⟨x1,x2⟩,x3,⟨x4,x5⟩,⟨x6,x7⟩,x8⟩) by rw [hW5];exact Sl.new W4 (St.cells ⟨k,⟨x1,x2⟩,x3,⟨x4,x5⟩,⟨x6,x7⟩,x8⟩) 80 9 1 bn hbn rfl (by simp [maxLen]))
 have HM5:=Lib.hid (HM3.out.below hbq)
 have HB5:=Lib.hid (HB3.out.trans (hbq.mono HB3.out.size))
 have HBQ5:=Lib.hid (HBQ3.out.below hbq)

 clear hbq hW5 hbn HM3 HB3 HBQ3
 (refine hK.out _ _ ⟨HM5.out.blk.1,HBQ5.out.1⟩ (fun hHeld=>?_);clear hK K;(try simp only [Act.put,List.setIfInBounds_toArray,List.set]))
 obtain ⟨inf,hin,hs0,hs1,hs2⟩:=info_parts st_info
 have HIN:=Lib.hid hin
 clear hin

 refine last_call 8 rfl (by kernel_rfl) (fun K hK=>?_)
 refine step_row rfl _ _ 22 rfl C 80 inf _ 9 136 Tryz.underlying22 HIN.out hs0 hs1 hs2 (by decide) rfl (by decide) _ p.l.length _ rfl HM5.out.r0 _ 1 _ rfl HN1.out.a (st_one _) (by have:=HZL.out;omega) HM5.out.hC ?_
 intro a5 c5 wc hown5 hg5
 have hneb:some b≠(Value.slice a0 p.l.length c0).ownBlock:=fun e=>by have:=(own_type HM5.out.r0 e.symm).1;have:=HM5.out.hb;omega
 have hneq:some w1.heap.size≠(Value.slice a0 p.l.length c0).ownBlock:=fun e=>by
  have h1:=own_type HM.out.r0 e.symm
  obtain ⟨_,cs,h2⟩:=h1
  have:=(Array.getElem?_eq_some_iff.1 h2).1
  omega
 have HKG:=Lib.hid (Kp.of_grown (X:=fun k=>some k=(Value.slice a0 p.l.length c0).ownBlock) hg5 (fun _ h=>h))
 have HBG:=Lib.hid (HKG.out.blk HM5.out.blk hneb)
 have HQG:=Lib.hid (HKG.out.blk HBQ5.out hneq)
 have HO5:=Lib.hid hown5
 clear hg5 hown5 HN1 HIN hs0 hs1 hs2 hneb hneq
 (refine hK.out _ _ ⟨HBG.out.1,HQG.out.1⟩ (fun hHeld=>?_);clear hK K;(try simp only [Act.put,List.setIfInBounds_toArray,List.set]))
 (refine last_call 9 rfl (by kernel_rfl) (fun K hK=>?_);go_simp)
 go_at_call 128;refine (syn_SortO _ (p.l++[⟨k,⟨x1,x2⟩,x3,⟨x4,x5⟩,⟨x6,x7⟩,x8⟩]) _ (by rw [List.length_append,List.flatMap_append];simpa using (Sl.of_own HO5.out).a) (by simp;omega)).mono ?_;rintro e wd ⟨vd,rfl,hod,hbd⟩
 obtain ⟨ad,cd,rfl⟩:=own_form hod
 have HOD:=Lib.hid hod
 have HBD:=Lib.hid hbd
 have HBG:=Lib.hid (HBG.out.below hbd)
 have HQG:=Lib.hid (HQG.out.below hbd)
 clear hod hbd
 (refine hK.out _ _ ⟨HBG.out.1,HQG.out.1⟩ (fun hHeld=>?_);clear hK K;(try simp only [Act.put,List.setIfInBounds_toArray,List.set]))
 (refine lyes 10 ?_);(refine lyes 11 ?_);(refine lyes 12 ?_);(try simp only [Act.put,List.setIfInBounds_toArray,List.set])
 obtain ⟨cg,fg,zg⟩:=HBG.out
 (refine last_end 13 rfl (by kernel_rfl) (by kernel_rfl) (fun K hK=>?_);go_simp)
 clear cg fg zg
 have HKD:=Lib.hid (HKG.out.trans (Kp.of_below (X:=fun _=>False) HBD.out) (fun _ _ h=>h.elim))
 have HMP:=Lib.hid (HM5.out.put0 HKD.out (own_mono HOD.out (Nat.le_trans HM5.out.hC HKG.out.size)))
 have HKP:=Lib.hid (((Kp.of_below (X:=mkrX C b w) HB5.out).trans HKD.out (fun g hg e=>.inr (by
  obtain ⟨h1,cs,h2⟩:=own_type HM.out.r0 e.symm
  exact ⟨h1,cs,_,h2,.inl rfl⟩))).trans (Kp.set (X:=fun k=>k=b) (o:=0) (v:=.slice ad (insAll [] (p.l++[⟨k,⟨x1,x2⟩,x3,⟨x4,x5⟩,⟨x6,x7⟩,x8⟩])).length cd) rfl) (fun g _ e=>.inl e))
 obtain ⟨we,hwe⟩:∃ V,V=wd.setCell ⟨b,0,none⟩ (.slice ad (insAll [] (p.l++[⟨k,⟨x1,x2⟩,x3,⟨x4,x5⟩,⟨x6,x7⟩,x8⟩])).length cd):=⟨_,rfl⟩
 rw [← hwe] at HMP HKP ⊢
 clear hwe HBG HQG HKG HO5 HM5 HB5 HBQ5 HKD HBD
 refine hK.out _ _ ?_
 clear hK K HOD
 have hil:(insAll [] (p.l++[⟨k,⟨x1,x2⟩,x3,⟨x4,x5⟩,⟨x6,x7⟩,x8⟩])).length≤p.l.length+1:=by have:=insAll_len (p.l++[⟨k,⟨x1,x2⟩,x3,⟨x4,x5⟩,⟨x6,x7⟩,x8⟩]) [];simpa using this
 by_cases hy:y0=0
 ·have FT:=Lib.hid (fun W (hb:Below we.heap.size we W)=>policy_FitsD (.slice ad (insAll [] (p.l++[⟨k,⟨x1,x2⟩,x3,⟨x4,x5⟩,⟨x6,x7⟩,x8⟩])).length cd) (.slice a1 p.g.length c1) (.slice a2 p.h.length c2) (.slice a3 zs.length c3) { p with l:=insAll [] (p.l++[⟨k,⟨x1,x2⟩,x3,⟨x4,x5⟩,⟨x6,x7⟩,x8⟩]) } zs W (HMP.out.pol.below hb) ((okP_le (HOK.out hy)).mono (by decide) (by decide)) (by simp;omega))
  have dy:(y0 == 0)=true:=by simp [hy]
  obtain ⟨cb4,fb4,zb4⟩:=HMP.out.blk
  have RF:=Lib.hid (fun (h:fitsD { p with l:=insAll [] (p.l++[⟨k,⟨x1,x2⟩,x3,⟨x4,x5⟩,⟨x6,x7⟩,x8⟩]) }=true)=>(congrArg resL E.out).trans (resL_fits hy h))
  have RM:=Lib.hid (fun (h:fitsD { p with l:=insAll [] (p.l++[⟨k,⟨x1,x2⟩,x3,⟨x4,x5⟩,⟨x6,x7⟩,x8⟩]) }=false)=>(congrArg resL E.out).trans (resL_many hy h))
  have EP:=Lib.hid (congrArg Prod.fst E.out)
  have hy0:=Lib.hid hy
  clear E hy
  generalize hfd:fitsD { p with l:=insAll [] (p.l++[⟨k,⟨x1,x2⟩,x3,⟨x4,x5⟩,⟨x6,x7⟩,x8⟩]) }=fd at FT RF RM
  clear hfd
  go_wp2_with fail
  refine (FT.out _ (Below.refl _ _)).mono ?_
  rintro e wf ⟨rfl,hbf⟩
  have HMF:=Lib.hid (HMP.out.below hbf)
  have HKF:=Lib.hid (HKP.out.trans (Kp.of_below (X:=fun _=>False) hbf) (fun _ _ h=>h.elim))
  clear hbf cb4 fb4 zb4
  cases fd with
  | true =>
   have R:=Lib.hid (RF.out rfl)
   go_wp2
   refine bodyPost_ret (v:=.tuple #[.int .i64 at0,.int .i64 y0]) (by simp [results,Tryz.results68,go_sem]) rfl ?_
   refine ⟨by rw [R.out,← hy0.out],HKF.out,fun _=>?_⟩
   rw [EP.out]
   exact ⟨_,_,_,_,_,HMF.out⟩
  | false =>
   have R:=Lib.hid (RM.out rfl)
   go_wp2
   refine bodyPost_ret (v:=.tuple #[.int .i64 1,.int .i64 5]) (by simp [results,Tryz.results68,go_sem]) rfl ?_
   exact ⟨by rw [R.out],HKF.out,fun h=>by rw [R.out] at h;cases h⟩
 ·have dy:(y0 == 0)=false:=by simp [hy]
  have R:=Lib.hid ((congrArg resL E.out).trans (resL_bad hy))
  have hyn:=Lib.hid hy
  clear hy
  go_wp2
  refine bodyPost_ret (v:=.tuple #[.int .i64 at0,.int .i64 y0]) (by simp [results,Tryz.results68,go_sem]) rfl ?_
  exact ⟨by rw [R.out],HKP.out,fun h=>by rw [R.out] at h;exact absurd h hyn.out⟩
end
section
open Go.RowKit Go.Shelf

set_option maxRecDepth 100000 in
set_option maxHeartbeats 4000000 in
theorem maker_line_none (s:ByteArray) (C b:Nat) (v0 v1 v2 v3:Value) (p:Pd) (zs:List (Qd × Value)) (w:World) (hM:MkP C b w v0 v1 v2 v3 p zs) (hg:Gl w) (hs:s.size≤1000000) (_:OkP p) (hf:fitsD p=true) (ti:Int) (ht:tokens (bl s)=([],ti,0)) :
  Calls Tryz.prog 68 #[.pointer (some ⟨b,0,none⟩),.string s] w fun e w'=>LineP C b w (lineP p s) e w':=by
 have HG:=Lib.hid hg
 obtain ⟨a0,c0,rfl⟩:=own_form hM.r0
 obtain ⟨a1,c1,rfl⟩:=own_form hM.r1
 obtain ⟨a2,c2,rfl⟩:=own_form hM.r2
 obtain ⟨a3,c3,rfl⟩:=own_form hM.r3
 have HM:=Lib.hid hM
 obtain ⟨n0,n1,n2,n3⟩:=fits_few hf
 have HZL:=Lib.hid (show zs.length=p.q.length by rw [← hM.z,List.length_map])
 have HF:=Lib.hid hf
 have TK:=Lib.hid (scan_Tokens_any s w hg (by omega))
 have E:=Lib.hid (show lineP p s=lineT p s (tokens (bl s)) from rfl)
 generalize lineP p s=res at E ⊢
 clear hg hf hM
 rw [ht] at E TK
 clear ht
 go_enter Tryz.func68,Tryz.ntmps68
 go_wp2_with fail
 refine TK.out.mono ?_
 rintro e w1 ⟨va,rfl,hown1,hb1⟩
 dsimp only at hown1
 obtain ⟨sa,sc,rfl⟩:=own_form hown1
 have HB1:=Lib.hid hb1
 clear hown1 hb1 TK
 have E:=Lib.hid (E.out.trans lineT_nil)
 have R:=Lib.hid ((congrArg resL E.out).trans (resL_fits rfl HF.out))
 have EP:=Lib.hid (congrArg Prod.fst E.out)
 clear E
 go_wp2
 refine bodyPost_ret (v:=.tuple #[.int .i64 ti,.int .i64 0]) (by simp [results,Tryz.results68,go_sem]) rfl ?_
 refine ⟨by rw [R.out],Kp.of_below HB1.out,fun _=>?_⟩
 rw [EP.out]
 exact ⟨_,_,_,_,_,HM.out.below HB1.out⟩
set_option maxRecDepth 100000 in
set_option maxHeartbeats 4000000 in
theorem maker_line_bad (s:ByteArray) (C b:Nat) (v0 v1 v2 v3:Value) (p:Pd) (zs:List (Qd × Value)) (w:World) (hM:MkP C b w v0 v1 v2 v3 p zs) (hg:Gl w) (hs:s.size≤1000000) (_:OkP p) (hf:fitsD p=true) (hty:¬ (tokens (bl s)).2.2=0) :
  Calls Tryz.prog 68 #[.pointer (some ⟨b,0,none⟩),.string s] w fun e w'=>LineP C b w (lineP p s) e w':=by
 have HG:=Lib.hid hg
 obtain ⟨a0,c0,rfl⟩:=own_form hM.r0
 obtain ⟨a1,c1,rfl⟩:=own_form hM.r1
 obtain ⟨a2,c2,rfl⟩:=own_form hM.r2
 obtain ⟨a3,c3,rfl⟩:=own_form hM.r3
 have HM:=Lib.hid hM
 obtain ⟨n0,n1,n2,n3⟩:=fits_few hf
 have HZL:=Lib.hid (show zs.length=p.q.length by rw [← hM.z,List.length_map])
 have HF:=Lib.hid hf
 have TK:=Lib.hid (scan_Tokens_any s w hg (by omega))
 have E:=Lib.hid (show lineP p s=lineT p s (tokens (bl s)) from rfl)
 generalize lineP p s=res at E ⊢
 clear hg hf hM
 go_enter Tryz.func68,Tryz.ntmps68
 go_wp2_with fail
 refine TK.out.mono ?_
 rintro e w1 ⟨va,rfl,hown1,hb1⟩
 obtain ⟨sa,sc,rfl⟩:=own_form hown1
 have HB1:=Lib.hid hb1
 clear hown1 hb1 TK
 generalize tokens (bl s)=t at *
 obtain ⟨l,ti,ty⟩:=t
 dsimp only at hty ⊢
 have E:=Lib.hid (E.out.trans (lineT_bad hty))
 have R:=Lib.hid ((congrArg resL E.out).trans (resL_bad hty))
 have hyn:=Lib.hid hty
 have d:(ty != 0)=true:=by simp [hty]
 clear hty E
 go_wp2
 refine bodyPost_ret (v:=.tuple #[.int .i64 ti,.int .i64 ty]) (by simp [results,Tryz.results68,go_sem]) rfl ?_
 exact ⟨by rw [R.out],Kp.of_below HB1.out,fun h=>by rw [R.out] at h;exact absurd h hyn.out⟩
theorem maker_line (s:ByteArray) (C b:Nat) (v0 v1 v2 v3:Value) (p:Pd) (zs:List (Qd × Value)) (w:World) (hM:MkP C b w v0 v1 v2 v3 p zs) (hg:Gl w) (hs:s.size≤1000000) (hok:OkP p) (hf:fitsD p=true) :
  Calls Tryz.prog 68 #[.pointer (some ⟨b,0,none⟩),.string s] w fun e w'=>LineP C b w (lineP p s) e w':=by
 by_cases hty:(tokens (bl s)).2.2=0
 ·cases ht:tokens (bl s) with | mk l y =>
  obtain ⟨ti,ty⟩:=y
  rw [ht] at hty
  dsimp only at hty
  subst hty
  cases l with
  | nil=>exact maker_line_none s C b v0 v1 v2 v3 p zs w hM hg hs hok hf ti ht
  | cons x r =>
   by_cases a1:x.tx=wAlways
   ·exact maker_line_ask s C b v0 v1 v2 v3 p zs w hM hg hs hok hf x r ti ht a1
   by_cases a2:x.tx=wCan
   ·exact maker_line_can s C b v0 v1 v2 v3 p zs w hM hg hs hok hf x r ti ht a1 a2
   have a:¬ (x.tx=wAlways∨x.tx=wCan):=fun h=>h.elim a1 a2
   by_cases a3:x.tx=wGrow
   ·exact maker_line_grow s C b v0 v1 v2 v3 p zs w hM hg hs hok hf x r ti ht a a3
   by_cases a4:x.tx=wShrink
   ·exact maker_line_shrink s C b v0 v1 v2 v3 p zs w hM hg hs hok hf x r ti ht a a3 a4
   exact maker_line_stmt s C b v0 v1 v2 v3 p zs w hM hg hs hok hf x r ti ht a a3 a4
 ·exact maker_line_bad s C b v0 v1 v2 v3 p zs w hM hg hs hok hf hty
end
section
open Go.RowKit Go.Shelf

def SeqC (P:Program) (g:Nat) (lb:Array Value) (encs:Nat→Array Value) (b N:Nat) (w:World):Prop :=
 ∀ (l:Nat) (J:Nat→World→Prop) (W:World),W.heap[b]? = w.heap[b]? → w.heap.size≤W.heap.size →
  (∀ k A v,J k A→J k (A.setCell ⟨b,0,none⟩ v))→(∀ k A,J k A→J k A.drew) →
  (∀ k A,J k A→k < N→YieldAt Fence.wide 2 P l (encs k) A fun e A'=>e=.returned (.bool true)∧J (k+1) A'∧A'.heap[b]? = A.heap[b]?) →
  J 0 W→CallsIn Fence.wide 3 P g (#[.func (.yield l) #[] #[]]++lb) W fun e W'=>(∃ v,e=.returned v)∧J N W'
def goesOn (R:World→Prop):Exit→Act→World→Prop
 | .normal,_,W=>R W
 | _,_,_=>False
theorem rangeFunc_cell {P:Program} {g:Operand} {ps:Array Tmp} {assign body:Code} {Q:Exit→Act→World→Prop} {a:Act} {w:World} {gf:Nat} {lb:Array Value}
  (hg:a.eval g=.func (.func gf) #[] lb) (eg:∀ args w,(callFunc gf args).run P w=.ok (.enter gf args) w) (b N:Nat) (encs:Nat→Array Value) (hb:b < w.heap.size)
  (hseq:SeqC P gf lb encs b N w) (hps:∀ k,(encs k).size=ps.size) (I:Nat→World→Prop)
  (hIp:∀ k A r o o',I k A→w.heap.size≤r→A.heap[r]? = some o→o.isCells=false→I k (A.putObj r o')) (hIa:∀ k A o,I k A→I k (A.alloc o))
  (hIs:∀ k A v,I k A→I k (A.setCell ⟨b,0,none⟩ v)) (hId:∀ k A,I k A→I k A.drew) (h0:I 0 w) (a₁:Nat→Act)
  (hassign:∀ (l k:Nat) (W:World) (K:Act→World→Prop),K (a₁ k) W →
   assign.wpIn (Fence.wide.inRound l) 2 P (Exit.then K (fun _ _ _=>False)) { tmps:=(ps.zip (encs k)).foldl (fun t (p,v)=>t.setIfInBounds p v) a.tmps,defers:=[] } W)
  (hbody:∀ (l k:Nat) (W:World),I k W→k < N→body.wpIn (Fence.wide.inRound l) 2 P (goesOn fun W'=>KeepsOthers W W'∧W'.heap[b]? = W.heap[b]? ∧ I (k+1) W') (a₁ k) W)
  (hdone:∀ (D:Nat) (W:World),w.heap.size≤D→I N W→W.heap[D]? = some (.deferred (some []))→Q .normal { a with defers:={ target:=.collected D,args:=#[] } :: a.defers } W) :
  (Code.rangeFunc g ps assign body).wpIn Fence.wide 4 P Q a w:=by
 refine wpIn_rangeFunc fun fn hfn=>?_
 obtain ⟨rc,hrc⟩:∃ rc:LoopState→Loop,rc=fun st => { state:=st,pending:=none,fn,tmps:=a.tmps,params:=ps,assign,body,defers:=w.heap.size }:=⟨_,rfl⟩
 obtain ⟨W1,hW1⟩:∃ W1,W1=(w.alloc (.deferred (some []))).alloc (.loop (rc .ready)):=⟨_,rfl⟩
 obtain ⟨d,hd⟩:∃ d,d=w.heap.size:=⟨_,rfl⟩
 have hL1:W1.heap[d+1]? = some (.loop (rc .ready)):=by
  have:=World.alloc_heap_new (w.alloc (.deferred (some []))) (.loop (rc .ready))
  rw [hW1,hd]
  rwa [World.size_alloc] at this
 have hK1:W1.heap[d]? = some (.deferred (some [])):=by
  rw [hW1,hd];exact (Below.heap_alloc _ _ _ (by simp)).trans (World.alloc_heap_new w _)
 have hB1:W1.heap[b]? = w.heap[b]? := by
  rw [hW1];exact (Below.heap_alloc _ _ _ (by simp;omega)).trans (Below.heap_alloc _ _ _ hb)
 have hz:w.heap.size≤W1.heap.size:=by rw [hW1];simp;omega
 have hI1:I 0 W1:=by rw [hW1];exact hIa _ _ _ (hIa _ _ _ h0)
 refine ⟨d+1,[{ target:=.collected d,args:=#[] }],W1,{ target:=.fn (.func gf) lb,args:=#[.func (.yield (d+1)) #[] #[]] },W1,gf,
  #[.func (.yield (d+1)) #[] #[]]++lb,W1,?_,?_,fun _ _=>trivial,?_,fun _=>by decide,?_⟩
 ·rw [hW1,hrc,hd];exact run_enterLoop_outer _ _ _ _ _
 ·simp only [resolve,hg]
  simp [go_sem]
 ·simp [invoke,go_sem,eg]
 have far:∀ (A:World) (v:Value) (r:Nat),d≤r→(A.setCell ⟨b,0,none⟩ v).heap[r]? = A.heap[r]? := fun A v r hr=>Below.heap_setCell _ _ _ _ (by show r≠b;omega)
 refine (hseq (d+1) (fun k A=>I k A∧A.heap[d+1]? = some (.loop (rc .ready))∧A.heap[d]? = some (.deferred (some []))) W1 hB1 hz
  (fun k A v h=>⟨hIs _ _ _ h.1,(far _ _ _ (by omega)).trans h.2.1,(far _ _ _ (by omega)).trans h.2.2⟩) (fun k A h=>⟨hId _ _ h.1,h.2.1,h.2.2⟩) ?_ ⟨hI1,hL1,hK1⟩).mono ?_
 ·rintro k A ⟨hi,hl,hk⟩ hkN
  have hlt:d+1 < A.heap.size:=(Array.getElem?_eq_some_iff.1 hl).1
  have hy:=run_yield (P:=P) (args:=encs k) hl (by rw [hrc];exact hps k)
  rw [hrc] at hy
  obtain ⟨A2,hA2⟩:∃ A2,A2=A.putObj (d+1) (.loop { rc .ready with state:=.busy }):=⟨_,rfl⟩
  have hl2:A2.heap[d+1]? = some (.loop { rc .ready with state:=.busy }):=by rw [hA2];exact World.putObj_heap_same hlt
  have hk2:A2.heap[d]? = some (.deferred (some [])):=by rw [hA2];exact (World.putObj_heap_other (by omega)).trans hk
  have hb2:A2.heap[b]? = A.heap[b]? := by rw [hA2];exact World.putObj_heap_other (by omega)
  have hi2:I k A2:=by rw [hA2];exact hIp _ _ _ _ _ hi (by omega) hl rfl
  refine ⟨fn,_,assign,body,hy,roundIn_of_wpIn hfn (hassign _ k A _ ⟨A2,by rw [hA2];exact run_beginRound hl (by rw [hrc]),?_⟩)⟩
  refine wpIn_mono (hbody _ k A2 hi2 hkN) ?_
  rintro e a3 A3 hp
  cases e with
  | normal =>
   obtain ⟨ho,hb3,hi3⟩:=hp
   have hl3:=ho.same _ _ hl2 rfl
   have hr:=run_endRound (P:=P) none hl3
   rw [hrc] at hr
   refine ⟨_,_,hr,rfl,⟨hIp _ _ _ _ _ hi3 (by omega) hl3 rfl,?_,(World.putObj_heap_other (by omega)).trans (ho.same _ _ hk2 rfl)⟩,(World.putObj_heap_other (by omega)).trans (hb3.trans hb2)⟩
   rw [hrc]
   exact World.putObj_heap_same (Array.getElem?_eq_some_iff.1 hl3).1
  | _=>exact hp.elim
 ·rintro e W2 ⟨⟨v,rfl⟩,hi,hl,hk⟩
  have hr:=run_endLoop (P:=P) hl (by rw [hrc];simp)
  rw [hrc] at hr
  subst hd
  exact ⟨none,_,hr,hdone _ _ (Nat.le_refl _) (hIp _ _ _ _ _ hi (by omega) hl rfl) ((World.putObj_heap_other (by omega)).trans hk)⟩
end
section
open Go.RowKit Go.Shelf

theorem strl_HasSuffix (s:ByteArray) (r:Bool) (w:World) (h0:0 < s.size) (hz:s.size≤9223372036854775807) (h:((s.extract (s.size - 1) s.size).toList == [10])=r) :
  Calls Tryz.prog 235 #[.string s,.string ⟨#[10]⟩] w fun e w'=>e=.returned (.bool r)∧w'=w:=by
 have d1:decide ((1:Int)≤(s.size:Int))=true:=decide_eq_true (by omega)
 go_enter Tryz.func235,Tryz.ntmps235
 go_wp2_with fail
 go_ret
 exact ⟨ret_b rfl,rfl⟩
theorem strl_CutSuffix (s t:ByteArray) (r:Bool) (w:World) (h0:0 < s.size) (hz:s.size≤9223372036854775807) (h:((s.extract (s.size - 1) s.size).toList == [10])=r) (ht:t=if r=true then s.extract 0 (s.size - 1) else s) :
  Calls Tryz.prog 178 #[.string s,.string ⟨#[10]⟩] w fun e w'=>e=.returned (.tuple #[.string t,.bool r])∧w'=w:=by
 have HS:=Lib.hid (strl_HasSuffix s r w h0 hz h)
 cases r with
 | true =>
  obtain rfl:t=s.extract 0 (s.size - 1):=ht
  clear h
  go_enter Tryz.func178,Tryz.ntmps178
  go_wp2_with fail
  refine HS.out.mono ?_
  rintro e w1 ⟨rfl,rfl⟩
  go_wp2
  exact bodyPost_ret (v:=.tuple #[.string (s.extract 0 (s.size - 1)),.bool true]) (by simp [results,Tryz.results178,go_sem]) rfl ⟨rfl,rfl⟩
 | false =>
  obtain rfl:t=s:=ht
  clear h
  go_enter Tryz.func178,Tryz.ntmps178
  go_wp2_with fail
  refine HS.out.mono ?_
  rintro e w1 ⟨rfl,rfl⟩
  go_wp2
  exact bodyPost_ret (v:=.tuple #[.string t,.bool false]) (by simp [results,Tryz.results178,go_sem]) rfl ⟨rfl,rfl⟩
theorem str_CutNl (p:List UInt8 × Bool) (w:World) (hz:(fullL p).length≤9223372036854775806) (h:p.2=true∨(p.1≠[]∧p.2=false∧∀ c,p.1.getLast? = some c→c≠10)) :
  Calls Tryz.prog 123 #[.string (pieceB p),.string ⟨#[10]⟩] w fun e w'=>e=.returned (.tuple #[.string (lineB p),.bool p.2])∧w'=w:=by
 have hsz:(pieceB p).size=(fullL p).length:=by rw [← bl_len];rfl
 have hb:bl (pieceB p)=fullL p:=rfl
 have hpos:0 < (fullL p).length:=by
  rcases h with h | ⟨h,h2,_⟩
  ·unfold fullL;rw [if_pos h];simp
  ·unfold fullL;rw [h2];exact List.length_pos_iff.2 h
 have e1:((pieceB p).extract ((pieceB p).size - 1) (pieceB p).size).toList=(fullL p).drop ((fullL p).length - 1):=by
  rw [toList_bl,ssub,hb,hsz]
 have HC:=Lib.hid (strl_CutSuffix (pieceB p) (lineB p) p.2 w (by omega) (by omega) (by
  rw [e1]
  obtain ⟨x,b⟩:=p
  rcases h with h | ⟨h,h2,h3⟩
  ·dsimp only at h
   subst h
   simp [fullL]
  ·dsimp only at h h2 h3
   subst h2
   show (x.drop (x.length - 1) == [10])=false
   obtain ⟨y,c,rfl⟩:∃ y c,x=y++[c]:=⟨x.dropLast,x.getLast h,(List.dropLast_concat_getLast h).symm⟩
   have hc:=h3 c (by simp)
   simp [hc]) (by
  obtain ⟨x,b⟩:=p
  cases b with
  | false=>rfl
  | true =>
   rw [if_pos rfl]
   refine bl_inj.1 ?_
   rw [bl_extract,hb,hsz]
   simp [fullL,lineB]))
 generalize pieceB p=s at *
 generalize lineB p=t at *
 generalize p.2=r at *
 clear e1 hb h
 go_enter Tryz.func123,Tryz.ntmps123
 go_wp2_with fail
 refine HC.out.mono ?_
 rintro e w1 ⟨rfl,rfl⟩
 go_wp2
 exact bodyPost_ret (v:=.tuple #[.string t,.bool r]) (by simp [results,Tryz.results123,go_sem]) rfl ⟨rfl,rfl⟩
theorem str_Lines (s:ByteArray) (w:World):Calls Tryz.prog 122 #[.string s] w fun e w'=>e=.returned (.func (.func 176) #[] #[.pointer (some ⟨w.heap.size,0,none⟩)])∧w'=w.alloc (.cells #[.string s] 9):=by
 go_enter Tryz.func122,Tryz.ntmps122
 go_wp2
 go_ret
 exact ⟨rfl,rfl⟩
def leftL (b:Nat) (W:World):Nat:=match W.cell? ⟨b,0,none⟩ with
 | some (.string s)=>s.size
 | _=>0
theorem leftL_of {b:Nat} {W:World} {s:ByteArray} {t:TypeId} (h:Boxed W b t (.string s)):leftL b W=s.size:=by unfold leftL;rw [h.cell]
theorem boxed_heap {b:Nat} {W W':World} {v:Value} {t:TypeId} (h:Boxed W b t v) (e:W'.heap[b]? = W.heap[b]?):Boxed W' b t v:=e.trans h
theorem drop_cons {α:Type} {L:List α} {k:Nat} {x:α} {xs:List α} (h:L.drop k=x :: xs) (d:α):k < L.length∧L.getD k d=x∧L.drop (k+1)=xs:=by
 have hk:k < L.length:=by
  refine Nat.lt_of_not_le fun hle=>?_
  rw [List.drop_eq_nil_of_le hle] at h
  exact absurd h (by simp)
 rw [List.drop_eq_getElem_cons hk] at h
 obtain ⟨h1,h2⟩:=List.cons.inj h
 exact ⟨hk,by rw [List.getD_eq_getElem?_getD,List.getElem?_eq_getElem hk];exact h1,h2⟩
def pieceK (text:ByteArray) (k:Nat):ByteArray:=pieceB ((linesP (bl text)).getD k ([],false))
set_option maxRecDepth 100000 in
set_option maxHeartbeats 4000000 in
theorem lines_seq (text:ByteArray) (b:Nat) (w:World) (hB:Boxed w b 9 (.string text)) (hz:text.size≤1000000) :
  SeqC Tryz.prog 176 #[.pointer (some ⟨b,0,none⟩)] (fun k=>#[.string (pieceK text k)]) b (linesP (bl text)).length w:=fun l J W hW hz0 hJs hJd hY h0=>by
 show CallsIn Fence.wide 3 Tryz.prog 176 #[.func (.yield l) #[] #[],.pointer (some ⟨b,0,none⟩)] W _
 have hBW:=boxed_heap hB hW
 obtain ⟨L,hL⟩:∃ L,L=linesP (bl text):=⟨_,rfl⟩
 rw [← hL] at hY ⊢
 refine callsIn_of_wp Tryz.func176 rfl trivial ?_ rfl
 simp only [Tryz.ntmps176,List.size_toArray,List.length_cons,List.length_nil,Nat.reduceAdd,Nat.reduceSub,Array.replicate_succ,Array.replicate_zero,List.push_toArray,List.append_toArray,List.nil_append,List.cons_append]
 gi_wp2
 gi_loopw [3] (fun v wr => ∃ (k:Nat) (s:ByteArray) , Boxed wr b 9 (.string s)∧linesP (bl s)=L.drop k∧k≤L.length∧s.size≤1000000∧J k wr) (fun _ wr=>leftL b wr)
 case atStart =>
  exact ⟨0,text,hBW,hL.symm,Nat.zero_le _,hz,h0⟩
 case round =>
  obtain ⟨k,s,hb,hs,hk,hsz,hJ⟩:=hrel
  have hc:=hb.cell
  have hf:=hb.frozen
  by_cases hpos:0 < s.size
  ·have IB:=Lib.hid (fun W=>Tryz.strings_IndexByte s 10 W)
   rw [show ((10:Int).toNat.toUInt8:UInt8)=10 from rfl] at IB
   have hne:bl s≠[]:=fun e=>by have:=congrArg List.length e;rw [bl_len,List.length_nil] at this;omega
   have hge:=Lib.indexByte_ge (bl s) 10
   by_cases h1:Lib.indexByte (bl s) 10 = -1
   ·have hst:=lines_step h1 hne
    rw [h1] at IB
    rw [hst] at hs
    obtain ⟨hk1,hk2,hk3⟩:=drop_cons hs.symm ([],false)
    have hp:pieceK text k=s:=by unfold pieceK;rw [← hL,hk2];exact bl_inj.1 rfl
    have hbz:=hb.set (.string ⟨#[]⟩)
    obtain ⟨fn,tmps,assign,body,hy,hR⟩:=hY k _ (hJs k wr (.string ⟨#[]⟩) hJ) hk1
    try dsimp only at hy
    rw [hp] at hy
    clear hge hst hp
    gi_wp2_with (refine ⟨trivial,?_⟩;gi_at_call 177;refine (callsIn_wide.2 (IB.out _)).mono ?_;rintro e w' ⟨rfl,rfl⟩)
    refine hR.mono ?_
    rintro e W3 ⟨rfl,hJ3,hk4⟩
    gi_wp2
    go_roundw
    case rel=>exact ⟨k+1,⟨#[]⟩,boxed_heap hbz hk4,hk3.symm,by omega,by decide,hJ3⟩
    case measure=>rw [leftL_of (boxed_heap hbz hk4),leftL_of hb];exact hpos
   ·obtain ⟨o,ho⟩:∃ o:Nat,Lib.indexByte (bl s) 10=o:=⟨(Lib.indexByte (bl s) 10).toNat,by omega⟩
    obtain ⟨hst,hlt,htk⟩:=lines_step1 ho
    rw [ho] at IB
    rw [hst] at hs
    rw [bl_len] at hlt
    obtain ⟨hk1,hk2,hk3⟩:=drop_cons hs.symm ([],false)
    have hp:pieceK text k=s.extract 0 (o+1):=by
     unfold pieceK
     rw [← hL,hk2]
     refine bl_inj.1 ?_
     rw [bl_extract,List.drop_zero,htk]
     rfl
    have hrs:bl (s.extract (o+1) s.size)=(bl s).drop (o+1):=ssub s (o+1)
    have hrz:(s.extract (o+1) s.size).size < s.size:=by rw [← bl_len,hrs,List.length_drop,bl_len];omega
    have d0:decide ((0:Int)≤(o:Int))=true:=decide_eq_true (by omega)
    have dx:(o:Int)+1≤(s.size:Int):=by omega
    have hwr:IntKind.i64.wrap ((o:Int)+1)=(o:Int)+1:=Go.IntWalk.i64_in _ (by omega)
    have d1:(0:Int)≤(o:Int)+1:=by omega
    have d2:((o:Int)+1).toNat=o+1:=by omega
    clear hge hst htk
    gi_wp2_with (refine ⟨trivial,?_⟩;gi_at_call 177;refine (callsIn_wide.2 (IB.out _)).mono ?_;rintro e w' ⟨rfl,rfl⟩)
    refine wpIn_wide.2 ?_
    refine wp_region_last (S:=(fun W=>W.cell? ⟨b,0,none⟩=some (.string s))) 9 (by kernel_rfl) hc (fun hHeld=>?_)
    have hbk:Boxed w'.drew b 9 (.string s):=hb
    have hJk:=hJd _ _ hJ
    obtain ⟨wk,hwk⟩:∃ W,W=w'.drew:=⟨_,rfl⟩
    rw [← hwk] at hbk hJk hHeld ⊢
    have hc:=hbk.cell
    have hf:=hbk.frozen
    clear hwk
    (refine lyes 0 ?_);(refine lyes 1 ?_);(refine lyes 2 ?_);(refine lyes 3 ?_);(refine lyes 4 ?_);(refine lyes 5 ?_);(refine lyes 6 ?_);(refine lyes 7 ?_);(refine lyes 8 ?_);(try simp only [Act.put,List.setIfInBounds_toArray,List.set])
    (refine last_end 9 rfl (by kernel_rfl) (by kernel_rfl) (fun K hK=>?_);go_simp)
    refine hK.out _ _ ?_
    clear hK K
    have hbz:=hbk.set (.string (s.extract (o+1) s.size))
    obtain ⟨fn,tmps,assign,body,hy,hR⟩:=hY k _ (hJs k wk (.string (s.extract (o+1) s.size)) hJk) hk1
    try dsimp only at hy
    rw [hp] at hy
    gi_wp2
    refine hR.mono ?_
    rintro e W3 ⟨rfl,hJ3,hk4⟩
    gi_wp2
    go_roundw
    case rel=>exact ⟨k+1,_,boxed_heap hbz hk4,by rw [hrs];exact hk3.symm,by omega,by omega,hJ3⟩
    case measure=>rw [leftL_of (boxed_heap hbz hk4),leftL_of hb];exact hrz
  ·obtain rfl:s=emp:=bl_inj.1 (List.eq_nil_of_length_eq_zero (by rw [bl_len];omega))
   have hk2:k=L.length:=by
    have:=congrArg List.length hs
    rw [List.length_drop,show linesP (bl emp)=[] from rfl,List.length_nil] at this
    omega
   subst hk2
   have he:emp.size=0:=rfl
   gi_wp2
   go_end0
   exact ⟨⟨_,rfl⟩,hJ⟩
theorem mem_getD {α:Type} {L:List α} {k:Nat} {d:α} (h:k < L.length):L.getD k d∈L:=by
 rw [List.getD_eq_getElem?_getD,List.getElem?_eq_getElem h];exact List.getElem_mem h
theorem lines_snoc {L:List (List UInt8 × Bool)} {k:Nat} (h:k < L.length):(L.take (k+1)).map lineB=(L.take k).map lineB++[lineB (L.getD k ([],false))]:=by
 rw [List.take_succ_eq_append_getElem h,List.map_append,List.getD_eq_getElem?_getD,List.getElem?_eq_getElem h]
 rfl
theorem own_baseL {w:World} {base base' size n:Nat} {e:TypeId} {v:Value} {xs:List Value} (h:w.ownsRow base e size v n xs) (hb:base'≤base):w.ownsRow base' e size v n xs:=by
 rcases h.2 with h2 | ⟨g,cap,cur,h1,h2,h3⟩
 ·exact ⟨h.1,.inl h2⟩
 ·exact ⟨h.1,.inr ⟨g,cap,cur,h1,Nat.le_trans hb h2,h3⟩⟩
def LinesI (L:List (List UInt8 × Bool)) (w:World) (k:Nat) (W:World):Prop :=
 (∃ v,Boxed W w.heap.size 27 v∧W.ownsRow (w.heap.size+2) 9 1 v k (strs ((L.take k).map lineB)))∧Below w.heap.size w W∧w.heap.size+2≤W.heap.size
attribute [local go_sem] Oper.semAt_some
set_option maxRecDepth 100000 in
set_option maxHeartbeats 4000000 in
theorem scan_Lines (s:ByteArray) (w:World) (hz:s.size≤1000000) :
  Calls Tryz.prog 67 #[.string s] w fun e w' => ∃ v,e=.returned v∧w'.ownsRow w.heap.size 9 1 v (linesB s).length (strs (linesB s))∧Below w.heap.size w w':=by
 obtain ⟨L,hL⟩:∃ L,L=linesP (bl s):=⟨_,rfl⟩
 have hLn:L.length≤1000000:=by rw [hL];have:=lines_len (bl s);rw [bl_len] at this;omega
 obtain ⟨i0,hi,hz0,hz1,hz2⟩:=info_parts str_info
 refine (callsIn_wide (n:=4)).1 ?_
 refine callsIn_of_wp_marks Tryz.func67 rfl trivial ?_ rfl
 simp only [Tryz.ntmps67,List.size_toArray,List.length_cons,List.length_nil,Nat.reduceAdd,Nat.reduceSub,Array.replicate_succ,Array.replicate_zero,List.push_toArray,List.append_toArray,List.nil_append,List.cons_append]
 gi_wp2_with (refine ⟨trivial,?_⟩;gi_at_call 122;refine (callsIn_wide.2 (str_Lines s _)).mono ?_;rintro e w' ⟨rfl,rfl⟩)
 have bO:=Boxed.new w 27 (.slice none 0 0)
 have bN:=Boxed.new (w.alloc (.cells #[.slice none 0 0] 27)) 9 (.string s)
 rw [World.size_alloc] at bN
 have hB0:Below w.heap.size w ((w.alloc (.cells #[.slice none 0 0] 27)).alloc (.cells #[.string s] 9)):=((Below.refl _ w).alloc (Nat.le_refl _) _).alloc (by simp) _
 have hsz:((w.alloc (.cells #[.slice none 0 0] 27)).alloc (.cells #[.string s] 9)).heap.size=w.heap.size+2:=by simp
 have bO2:=bO.alloc (.cells #[.string s] 9)
 obtain ⟨W0,hW0⟩:∃ W0,W0=(w.alloc (.cells #[.slice none 0 0] 27)).alloc (.cells #[.string s] 9):=⟨_,rfl⟩
 rw [← hW0] at bN hB0 hsz bO2 ⊢
 clear bO hW0
 have hseq:=lines_seq s (w.heap.size+1) W0 bN hz
 rw [← hL] at hseq
 refine rangeFunc_cell (gf:=176) (lb:=#[.pointer (some ⟨w.heap.size+1,0,none⟩)]) rfl (enters_of Tryz.func176 (by kernel_rfl) rfl) (w.heap.size+1) L.length
  (fun k=>#[.string (pieceK s k)]) (by omega) hseq (fun _=>rfl) (LinesI L w) ?hIp ?hIa ?hIs ?hId ?h0
  (fun k => { tmps:=#[.string s,undef,.pointer (some ⟨w.heap.size,0,none⟩),.string (pieceK s k),undef,undef,.string s,.func (.func 176) #[] #[.pointer (some ⟨w.heap.size+1,0,none⟩)],.string (pieceK s k),undef,undef,undef,undef,undef,undef,undef,undef,undef,undef],defers:=[] }) ?assign ?body ?done
 case hIp =>
  rintro k A r o o' ⟨⟨v,hv,hr⟩,hb,hA⟩ hle ho hc
  exact ⟨⟨v,hv.kept (grownBy_putObj' A r o') (fun e=>by have:=Option.some.inj e;omega),ownsRow_putObj hr o' ho hc⟩,hb.grown (grownBy_putObj' A r o') hb.size (fun j e=>by cases e;omega),by simp;exact hA⟩
 case hIa =>
  rintro k A o ⟨⟨v,hv,hr⟩,hb,hA⟩
  exact ⟨⟨v,hv.alloc o,hr.alloc o⟩,hb.alloc hb.size o,by simp;omega⟩
 case hIs =>
  rintro k A v' ⟨⟨v,hv,hr⟩,hb,hA⟩
  have hg:=grownBy_setCell' A (w.heap.size+1) v'
  exact ⟨⟨v,hv.kept hg (fun e=>by have:=Option.some.inj e;omega),hr.kept hg (.inr (fun e=>by have:=(hr.lt _ e).1;omega))⟩,hb.setCell (p:=⟨w.heap.size+1,0,none⟩) (by simp) v',by have:=hg.size;omega⟩
 case hId =>
  rintro k A ⟨⟨v,hv,hr⟩,hb,hA⟩
  exact ⟨⟨v,hv,hr.drew⟩,below_drew hb,hA⟩
 case h0=>exact ⟨⟨_,bO2,World.ownsRow_nil _ _ _ _⟩,hB0,by omega⟩
 case assign =>
  intro l k W K hK
  gi_wp2
  exact hK
 case body =>
  rintro l k W ⟨⟨v,hv,hr⟩,hb,hA⟩ hk
  have hp:=lines_cut_of (l:=bl s) (k:=k) (by rw [← hL];exact hk)
  rw [← hL] at hp
  have hpz:(fullL (L.getD k ([],false))).length≤1000000:=by
   have h1:=lines_size (bl s) (L.getD k ([],false)) (by rw [← hL];exact mem_getD hk)
   rw [bl_len] at h1
   omega
  have HC:=Lib.hid (fun W=>str_CutNl (L.getD k ([],false)) W (by omega) hp)
  rw [show pieceB (L.getD k ([],false))=pieceK s k by rw [hL];rfl] at HC
  have hsn:=lines_snoc hk
  have hcv:=hv.cell
  have hcf:=hv.frozen
  generalize pieceK s k=pk at *
  generalize lineB (L.getD k ([],false))=ln at *
  generalize (L.getD k ([],false)).2=fl at *
  clear hp hpz
  have hle:w.heap.size≤W.heap.size:=hb.size
  gi_wp2_with (first
   | (refine ⟨trivial,?_⟩;gi_at_call 123;refine (CallsIn.inRound l (callsIn_wide.2 (HC.out _))).mono ?_;rintro e w' ⟨rfl,rfl⟩)
   | (gi_at_builtin;refine wpListIn_append_own _ rfl _ _ 27 rfl (w.heap.size+2) 9 i0 (.string ByteArray.empty) 1 16 Tryz.underlying27 hi hz0 hz1 hz2 rfl (by decide) _ _ _ rfl (hr.alloc _) ⟨_,0,none⟩ 1 1 [.string ln] rfl rfl (cell_one_new _ _ _) (by simp [Value.oneCell']) (by simp only [maxLen];omega) (by omega) (by simp;omega) ?_;intro v' w1 hown' hgrow _;obtain ⟨g',cap',rfl⟩:=ownsRow_succ hown';obtain ⟨hv1,hv2,hr2,hk2,hb2⟩:=hv.appended (by decide) (own_baseL hr (show w.heap.size≤w.heap.size+2 by omega)) hle (Nat.le_refl _) (own_baseL hown' (show w.heap.size≤w.heap.size+2 by omega)) hgrow;have hc1:=hv1.cell;have hf1:=hv1.frozen))
  have hst:=grownBy_setCell' w1 w.heap.size (.slice (some ⟨g',0,none⟩) (k+1) cap')
  have hnb:some (w.heap.size+1)≠v.ownBlock:=fun e=>by have:=(hr.lt _ e.symm).1;omega
  refine ⟨hk2,?_,⟨_,hv2,?_⟩,hb.trans hb2,by have:=hb2.size;omega⟩
  ·refine (Below.heap_setCell _ _ _ _ (by show w.heap.size+1≠w.heap.size;omega)).trans ((hgrow.block _ (by simp;omega) hnb).trans (Below.heap_alloc _ _ _ (by omega)))
  ·rw [hsn,show strs ((L.take k).map lineB++[ln])=strs ((L.take k).map lineB)++[.string ln] by simp [strs]]
   exact hown'.kept hst (.inr (hv1.not_row (by decide) (own_baseL hown' (show w.heap.size≤w.heap.size+2 by omega))).symm)
 case done =>
  rintro D W hD ⟨⟨v,hv,hr⟩,hb,hA⟩ hK
  have HL2:=Lib.hid (show linesB s=L.map lineB by unfold linesB;rw [hL])
  clear hL hseq bN bO2
  have hcv:=hv.cell
  have hcf:=hv.frozen
  rw [List.take_length] at hr
  obtain ⟨va,vc,rfl⟩:=own_form hr
  have hK3:=(KeepsOthers.setCell W ⟨w.heap.size,0,none⟩ (.slice va L.length vc)).same D _ hK rfl
  have hv3:=hv.set (.slice va L.length vc)
  have hb3:=hb.setCell (p:=⟨w.heap.size,0,none⟩) (Nat.le_refl _) (.slice va L.length vc)
  have hr3:=hr.kept (grownBy_setCell' W w.heap.size (.slice va L.length vc)) (.inr (fun e=>by have:=(hr.lt _ e).1;omega))
  have hR:=ownsRow_putObj hr3 (.deferred none) hK3 rfl
  have hB:=hb3.trans (belowK_b (w:=w) (Nat.le_refl _) _ D _ (.deferred none) (by omega) hK3 rfl rfl)
  have hV:=hv3.kept (grownBy_putObj' _ D (.deferred none)) (fun e=>by have:=Option.some.inj e;omega)
  have hc4:=hV.cell
  clear hv3 hr3 hb3
  gi_wp2
  refine ⟨by simp,.inl ⟨_,_,rfl,run_takeDeferred hK3,?_⟩⟩
  refine ⟨.slice va L.length vc,by simp [results,Tryz.results67,go_sem,hc4],_,rfl,?_,hB⟩
  rw [HL2.out,List.length_map]
  exact own_baseL hR (by omega)
end
section
open Go.RowKit Go.Shelf

structure PolO (B:Nat) (w:World) (v0 v1 v2 v3:Value) (p:Pd) (zs:List (Qd × Value)):Prop where
 z:zs.map (·.1)=p.q
 r0:w.ownsRow B 80 9 v0 p.l.length (p.l.flatMap St.cells)
 r1:w.ownsRow B 78 2 v1 p.g.length (p.g.flatMap Rl.cells)
 r2:w.ownsRow B 78 2 v2 p.h.length (p.h.flatMap Rl.cells)
 r3:w.ownsRow B 83 6 v3 zs.length ((zs.map qz).flatMap Qv.cells)
 rw:∀ z∈zs,w.ownsRow B 9 1 z.2 z.1.us.length (strs z.1.us)
theorem PolO.pol {B:Nat} {w:World} {v0 v1 v2 v3:Value} {p:Pd} {zs:List (Qd × Value)} (h:PolO B w v0 v1 v2 v3 p zs):PolD w v0 v1 v2 v3 p zs :=
 ⟨h.z,(Sl.of_own h.r0).a,(Sl.of_own h.r1).a,(Sl.of_own h.r2).a,(Sl.of_own h.r3).a,fun z hz=>(Sl.of_own (h.rw z hz)).a⟩
theorem PolO.nil (B:Nat) (w:World):PolO B w nilV nilV nilV nilV noPd [] :=
 ⟨rfl,World.ownsRow_nil _ _ _ _,World.ownsRow_nil _ _ _ _,World.ownsRow_nil _ _ _ _,World.ownsRow_nil _ _ _ _,fun z hz=>by simp at hz⟩
theorem MkP.own {C b B:Nat} {w:World} {v0 v1 v2 v3:Value} {p:Pd} {zs:List (Qd × Value)} (h:MkP C b w v0 v1 v2 v3 p zs) (hB:B≤C):PolO B w v0 v1 v2 v3 p zs :=
 ⟨h.z,own_mono h.r0 hB,own_mono h.r1 hB,own_mono h.r2 hB,own_mono h.r3 hB,fun z hz=>own_mono (h.rw z hz) hB⟩
theorem PolO.kp {X:Nat→Prop} {B:Nat} {w w':World} {v0 v1 v2 v3:Value} {p:Pd} {zs:List (Qd × Value)} (h:PolO B w v0 v1 v2 v3 p zs) (k:Kp X w w') (hX:∀ g,B≤g→¬ X g):PolO B w' v0 v1 v2 v3 p zs :=
 ⟨h.z,k.own h.r0 (fun g hg=>hX g (own_type h.r0 hg).1),k.own h.r1 (fun g hg=>hX g (own_type h.r1 hg).1),k.own h.r2 (fun g hg=>hX g (own_type h.r2 hg).1),k.own h.r3 (fun g hg=>hX g (own_type h.r3 hg).1),fun z hz=>k.own (h.rw z hz) (fun g hg=>hX g (own_type (h.rw z hz) hg).1)⟩
theorem PolO.set {B g o:Nat} {w:World} {v0 v1 v2 v3 v:Value} {p:Pd} {zs:List (Qd × Value)} (h:PolO B w v0 v1 v2 v3 p zs) (hg:g < B):PolO B (w.setCell ⟨g,o,none⟩ v) v0 v1 v2 v3 p zs :=
 h.kp (Kp.set (X:=fun k=>k=g) rfl) (fun k hk e=>by omega)
theorem PolO.mono {B B':Nat} {w:World} {v0 v1 v2 v3:Value} {p:Pd} {zs:List (Qd × Value)} (h:PolO B w v0 v1 v2 v3 p zs) (hB:B'≤B):PolO B' w v0 v1 v2 v3 p zs :=
 ⟨h.z,own_mono h.r0 hB,own_mono h.r1 hB,own_mono h.r2 hB,own_mono h.r3 hB,fun z hz=>own_mono (h.rw z hz) hB⟩
def ParseP (r:Pd × Int × Int × Int) (w:World) (e:Ending) (w':World):Prop:=∃ v0 v1 v2 v3 zs,e=.returned (.tuple #[pv v0 v1 v2 v3,.agg #[.int .i64 r.2.1,.int .i64 r.2.2.1,.int .i64 r.2.2.2]])∧PolO w.heap.size w' v0 v1 v2 v3 r.1 zs∧Below w.heap.size w w'
theorem goP_step (p:Pd) (i:Nat) (s:ByteArray) (r:List ByteArray):goP p i (s :: r)=if (resL (lineP p s)).2=0 then goP (lineP p s).1 (i+1) r else (noPd,(resL (lineP p s)).2,(i:Int)+1,(resL (lineP p s)).1):=by
 rw [goP]
 by_cases h:(lineP p s).2.2=0
 ·rw [if_neg (fun x=>x h)]
  cases hf:fitsD (lineP p s).1 with
  | true=>rw [resL_fits h hf,if_pos rfl,if_pos rfl]
  | false=>rw [resL_many h hf,if_neg (by decide),if_neg (by decide)]
 ·rw [if_pos h,resL_bad h,if_neg h]
theorem resL_zero {y:Pd × Int × Int} (h:(resL y).2=0):y.2.2=0∧fitsD y.1=true:=by
 by_cases h1:y.2.2=0
 ·cases hf:fitsD y.1 with
  | true=>exact ⟨h1,rfl⟩
  | false=>rw [resL_many h1 hf] at h;exact absurd h (by decide)
 ·rw [resL_bad h1] at h;exact absurd h h1
structure ParW (w:World) (L:List ByteArray) (vL:Value) (wr:World):Prop where
 low:Below w.heap.size w wr
 b0:Blk wr w.heap.size #[nilV,nilV,nilV,nilV]
 b1:Blk wr (w.heap.size+1) #[.int .i64 0,.int .i64 0,.int .i64 0]
 row:wr.ownsRow (w.heap.size+1+1+1) 9 1 vL L.length (strs L)
theorem ParW.kp {w wr w':World} {L:List ByteArray} {vL:Value} (h:ParW w L vL wr) (k:Kp (mkrX (w.heap.size+1+1+1) (w.heap.size+1+1) wr) wr w'):ParW w L vL w':=by
 have hx:∀ g,g < w.heap.size+1+1→¬ mkrX (w.heap.size+1+1+1) (w.heap.size+1+1) wr g:=fun g hg h=>by
  rcases h with h | ⟨h,_⟩ <;> omega
 refine ⟨h.low.trans (k.below h.low.size (fun g hg=>hx g (by omega))),k.blk h.b0 (hx _ (by omega)),k.blk h.b1 (hx _ (by omega)),k.own h.row (fun g hg hx=>?_)⟩
 obtain ⟨h1,cs,h2⟩:=own_type h.row hg
 rcases hx with hx | ⟨_,cs',t,hx,ht⟩
 ·omega
 ·rw [h2] at hx
  injection hx with hx
  injection hx with _ hx _
  subst hx
  rcases ht with ht | ht | ht
  ·exact ne_ts ht
  ·exact ne_tr ht
  ·exact ne_tq ht
set_option maxRecDepth 100000 in
set_option maxHeartbeats 4000000 in
theorem policy_Parse (s:ByteArray) (w:World) (hg:Gl w) (hs:s.size≤9223372036854775807):Calls Tryz.prog 24 #[.string s] w fun e w'=>ParseP (parseP s) w e w':=by
 have HG:=Lib.hid hg
 by_cases h8:8000 < s.size
 ·have d:decide ((8000:Int) < (s.size:Int))=true:=by (rw [decide_eq_true_iff];omega)
  have E:=Lib.hid (show parseP s=(noPd,4,0,0) from if_pos h8)
  have HT:=TwoAt.new w #[nilV,nilV,nilV,nilV] #[.int .i64 0,.int .i64 0,.int .i64 0] 26 48
  obtain ⟨ca,fa,za⟩:=HT.a
  obtain ⟨cb,fb,zb⟩:=HT.b
  clear hg h8
  go_enter Tryz.func24,Tryz.ntmps24
  go_wp2
  refine bodyPost_ret (v:=.tuple #[pv nilV nilV nilV nilV,.agg #[.int .i64 4,.int .i64 0,.int .i64 0]]) (by simp [results,Tryz.results24,go_sem]) rfl ?_
  refine ⟨nilV,nilV,nilV,nilV,[],by rw [E.out],by rw [E.out];exact PolO.nil _ _,?_⟩
  have hb4:=Below.refl w.heap.size w
  (repeat' (first | with_reducible exact Below.refl _ _ | with_reducible assumption | with_reducible (refine Below.setCell ?_ ?_ _) | with_reducible (refine Below.alloc ?_ ?_ _) | with_reducible (refine below_drew ?_) | with_reducible (refine below_drewN ?_ _) | with_reducible (refine Below.trans ?_ (Below.mono (by assumption) ?_)) | omega | (simp;done) | (simp;omega)))
 ·have d:decide ((8000:Int) < (s.size:Int))=false:=by (rw [decide_eq_false_iff_not];omega)
  have E:=Lib.hid (show parseP s=goP noPd 0 (linesB s) from if_neg h8)
  have HLS:=Lib.hid (linesB_size s)
  obtain ⟨WA,hWA⟩:∃ W,W=((w.alloc (.cells #[nilV,nilV,nilV,nilV] 26)).alloc (.cells #[.int .i64 0,.int .i64 0,.int .i64 0] 48)).alloc (.cells #[nilV,nilV,nilV,nilV] 100):=⟨_,rfl⟩
  have hbA:Below w.heap.size w WA:=by rw [hWA];exact (((Below.refl _ _).alloc (Nat.le_refl _) _).alloc (by simp) _).alloc (by simp;omega) _
  have hzA:WA.heap.size=w.heap.size+1+1+1:=by rw [hWA];simp
  have SL:=Lib.hid (scan_Lines s WA (by omega))
  generalize parseP s=res at E ⊢
  have hLn:(linesB s).length≤8000:=Nat.le_trans (linesB_len s) (by omega)
  generalize linesB s=L at E HLS SL hLn
  have H0:=Lib.hid (show Blk WA w.heap.size #[nilV,nilV,nilV,nilV] from by
   rw [hWA];exact ((Blk.new w _ _).alloc _).alloc _)
  have H1:=Lib.hid (show Blk WA (w.heap.size+1) #[.int .i64 0,.int .i64 0,.int .i64 0] from by
   rw [hWA];have h:=(Blk.new (w.alloc (.cells #[nilV,nilV,nilV,nilV] 26)) #[.int .i64 0,.int .i64 0,.int .i64 0] 48).alloc (.cells #[nilV,nilV,nilV,nilV] 100);simpa using h)
  have H2:=Lib.hid (show Blk WA (w.heap.size+1+1) #[nilV,nilV,nilV,nilV] from by
   rw [hWA];have h:=Blk.new ((w.alloc (.cells #[nilV,nilV,nilV,nilV] 26)).alloc (.cells #[.int .i64 0,.int .i64 0,.int .i64 0] 48)) #[nilV,nilV,nilV,nilV] 100;simpa using h)
  have HBA:=Lib.hid hbA
  have hs8:s.size≤8000:=by omega
  clear hg h8 hbA
  go_enter Tryz.func24,Tryz.ntmps24
  go_wp2_with fail
  rw [← hWA]
  clear hWA
  refine SL.out.mono ?_
  rintro e w1 ⟨vL,rfl,hol,hb1⟩
  obtain ⟨la,lc,rfl⟩:=own_form hol
  rw [hzA] at hol
  have HPW:=Lib.hid (show ParW w L (.slice la L.length lc) w1 from ⟨HBA.out.trans (hb1.mono HBA.out.size),H0.out.below hb1,H1.out.below hb1,hol⟩)
  have HMP:=Lib.hid (show MkP (w.heap.size+1+1+1) (w.heap.size+1+1) w1 nilV nilV nilV nilV noPd [] from ⟨H2.out.below hb1,by omega,by rw [← hzA];exact hb1.size,rfl,World.ownsRow_nil _ _ _ _,World.ownsRow_nil _ _ _ _,World.ownsRow_nil _ _ _ _,World.ownsRow_nil _ _ _ _,fun z hz=>by simp at hz,fun k hk=>by cases hk⟩)
  clear hol hb1 H0 H1 H2 HBA hzA SL
  go_wp2_with fail
  go_loopw [17] (fun i wr => ∃ (k:Nat) (p:Pd) (v0 v1 v2 v3:Value) (zs:List (Qd × Value)),k≤L.length∧i=.int .i64 k∧Hid (MkP (w.heap.size+1+1+1) (w.heap.size+1+1) wr v0 v1 v2 v3 p zs)∧Hid (OkP p)∧Hid (fitsD p=true)∧Hid (ParW w L (.slice la L.length lc) wr)∧Hid (res=goP p k (L.drop k))) (fun i _=>L.length - (intOf i).toNat)
  case atStart=>exact ⟨0,noPd,_,_,_,_,[],by omega,rfl,HMP,Lib.hid okP_no,Lib.hid fits_noP,HPW,E⟩
  case round =>
   obtain ⟨k,p,v0,v1,v2,v3,zs,hk,rfl,HM,HO,HF,HP,HE⟩:=hrel
   by_cases hlt:k < L.length
   ·obtain ⟨b3,o3,c3,he3,hc3,hm3,hb3,hx3⟩:=(Sl.of_own HP.out.row).pos (by omega)
    simp only [Value.slice.injEq,true_and] at he3
    obtain ⟨rfl,rfl⟩:=he3
    have p3:=hx3 k _ (strs_get hlt)
    have HN:=Lib.hid (HE.out.trans ((congrArg (goP p k) (List.drop_eq_getElem_cons hlt)).trans (goP_step p k L[k] _)))
    have hym:L[k].size≤8000:=Nat.le_trans (HLS.out _ (List.getElem_mem hlt)) hs8
    have ML:=Lib.hid (maker_line L[k] _ _ v0 v1 v2 v3 p zs wr HM.out (HG.out.below HP.out.low) (by omega) HO.out HF.out)
    have HOK:=Lib.hid (fun (h:(lineP p L[k]).2.2=0)=>lineP_ok HO.out h)
    clear hx3 HE
    generalize L[k]=y at *
    generalize lineP p y=Y at HN ML HOK
    go_wp2_with fail
    refine ML.out.mono ?_
    rintro e w2 ⟨rfl,hkp,hres⟩
    have HP2:=Lib.hid (HP.out.kp hkp)
    have HRS:=Lib.hid hres
    have HRZ:=Lib.hid (fun h=>resL_zero (y:=Y) h)
    clear hkp hres ML HM
    generalize resL Y=Z at HN HRS HRZ
    obtain ⟨at0,y0⟩:=Z
    dsimp only at HN HRS HRZ ⊢
    by_cases hy:y0=0
    ·subst hy
     obtain ⟨u0,u1,u2,u3,us,hm⟩:=HRS.out rfl
     obtain ⟨hz1,hz2⟩:=HRZ.out rfl
     have HM:=Lib.hid hm
     have HO2:=Lib.hid (HOK.out hz1)
     have HF2:=Lib.hid hz2
     have HN:=Lib.hid (HN.out.trans (if_pos rfl))
     clear hm hz1 hz2 HRS HRZ HOK
     go_wp2
     exact ⟨⟨k+1,_,u0,u1,u2,u3,us,by omega,by go_num,HM,HO2,HF2,HP2,HN⟩,by simp [intOf];omega⟩
    ·have HN:=Lib.hid (HN.out.trans (if_neg hy))
     have d1:(y0 != 0)=true:=by simp [hy]
     have hlow:=HP2.out.low
     obtain ⟨ca,fa,za⟩:=HP2.out.b0
     obtain ⟨cb,fb,zb⟩:=HP2.out.b1
     have hw1:IntKind.i64.wrap ((k:Int)+1)=(k:Int)+1:=Go.IntWalk.i64_in _ (by omega)
     clear hy HRS HRZ HOK
     go_wp2
     refine bodyPost_ret (v:=.tuple #[pv nilV nilV nilV nilV,.agg #[.int .i64 y0,.int .i64 ((k:Int)+1),.int .i64 at0]]) (by simp [results,Tryz.results24,go_sem,ca,cb]) rfl ?_
     refine ⟨nilV,nilV,nilV,nilV,[],by rw [HN.out],by rw [HN.out];exact PolO.nil _ _,?_⟩
     have hb4:=hlow
     (repeat' (first | with_reducible exact Below.refl _ _ | with_reducible assumption | with_reducible (refine Below.setCell ?_ ?_ _) | with_reducible (refine Below.alloc ?_ ?_ _) | with_reducible (refine below_drew ?_) | with_reducible (refine below_drewN ?_ _) | with_reducible (refine Below.trans ?_ (Below.mono (by assumption) ?_)) | omega | (simp;done) | (simp;omega)))
   ·have HN:=Lib.hid (show res=(p,0,0,0) by rw [HE.out,List.drop_eq_nil_of_le (by omega)];rfl)
    have hlow:=HP.out.low
    obtain ⟨ca,fa,za⟩:=HP.out.b0
    obtain ⟨cb,fb,zb⟩:=HP.out.b1
    obtain ⟨a0,c0,rfl⟩:=own_form HM.out.r0
    obtain ⟨a1,c1,rfl⟩:=own_form HM.out.r1
    obtain ⟨a2,c2,rfl⟩:=own_form HM.out.r2
    obtain ⟨a3,c3,rfl⟩:=own_form HM.out.r3
    obtain ⟨cc,fc,zc⟩:=HM.out.blk
    have HOW:=Lib.hid (HM.out.own (B:=w.heap.size+1+1) (by omega))
    go_wp2
    refine bodyPost_ret (v:=.tuple #[pv (.slice a0 p.l.length c0) (.slice a1 p.g.length c1) (.slice a2 p.h.length c2) (.slice a3 zs.length c3),.agg #[.int .i64 0,.int .i64 0,.int .i64 0]]) (by simp [results,Tryz.results24,go_sem,ca,cb]) rfl ?_
    refine ⟨_,_,_,_,zs,by rw [HN.out],?_,?_⟩
    ·rw [HN.out]
     exact ((((((((HOW.out.set (by omega)).set (by omega)).set (by omega)).set (by omega)).set (by omega)).set (by omega)).set (by omega)).mono (by omega))
    ·have hb4:=hlow
     (repeat' (first | with_reducible exact Below.refl _ _ | with_reducible assumption | with_reducible (refine Below.setCell ?_ ?_ _) | with_reducible (refine Below.alloc ?_ ?_ _) | with_reducible (refine below_drew ?_) | with_reducible (refine below_drewN ?_ _) | with_reducible (refine Below.trans ?_ (Below.mono (by assumption) ?_)) | omega | (simp;done) | (simp;omega)))
end
section
open Go.RowKit Go.Shelf

theorem str_Join (v:Value) (xs:List ByteArray) (sep:ByteArray) (w:World) (h:SlA w 1 v xs.length (strs xs)) (hN:xs.length≤1000000) (hlen:(joinB xs sep).size≤140737488355328) :
  Calls Tryz.prog 120 #[v,.string sep] w fun e w'=>e=.returned (.string (joinB xs sep))∧Below w.heap.size w w':=by
 obtain ⟨ao,c,rfl⟩:=h.form
 by_cases h0:xs.length=0
 ·have hx:xs=[]:=List.eq_nil_of_length_eq_zero h0
  subst hx
  refine (str_Join_none ao c sep w).mono ?_
  rintro e w' ⟨rfl,rfl⟩
  exact ⟨rfl,Below.refl _ _⟩
 ·obtain ⟨b1,o1,c1,he1,hc1,hm1,hb1,hx1⟩:=h.pos (by omega)
  simp only [Value.slice.injEq,true_and] at he1
  obtain ⟨rfl,rfl⟩:=he1
  have hcl:∀ (j:Nat) x,xs[j]? = some x→w.cell? ⟨b1,o1+j,none⟩=some (.string x):=fun j x hj=>hx1 j _ (by unfold strs;rw [List.getElem?_map,hj];rfl)
  by_cases h1:xs.length=1
  ·obtain ⟨x,hx⟩:=List.length_eq_one_iff.1 h1
   subst hx
   refine (str_Join_one b1 o1 c x sep w (by have:=hcl 0 x rfl;simpa using this)).mono ?_
   rintro e w' ⟨rfl,rfl⟩
   exact ⟨by rw [joinB_one],Below.refl _ _⟩
  ·refine (str_Join_many b1 o1 c xs sep w hcl hb1 (by omega) (by omega) hc1 ?_).mono ?_
   ·have:(joinB xs sep).size=(Lib.join (xs.map (·.data.toList)) sep.data.toList).length:=by unfold joinB;simp [ByteArray.size,bl]
    omega
   ·rintro e w' ⟨rfl,hb⟩
    exact ⟨rfl,hb⟩
end
section
open Go.RowKit Go.Shelf

theorem query_head (k:Int) (w:World):Calls Tryz.prog 174 #[.int .i64 k] w fun e w'=>e=.returned (.string (headW k))∧w'=w:=by
 have UN:=Lib.hid (fun W=>query_Universal k W)
 have HE:=Lib.hid (show headW k=if univB k=true then wAlways else wCan from rfl)
 generalize headW k=r at *
 generalize univB k=u at *
 cases u with
 | true =>
  have HE:=Lib.hid (show r=wAlways by rw [HE.out];rfl)
  go_enter Tryz.func174,Tryz.ntmps174
  go_wp2_with fail
  refine (UN.out _).mono ?_
  rintro e w1 ⟨rfl,rfl⟩
  go_wp2
  go_ret
  exact ⟨ret_s (by rw [HE.out];rfl),rfl⟩
 | false =>
  have HE:=Lib.hid (show r=wCan by rw [HE.out];rfl)
  go_enter Tryz.func174,Tryz.ntmps174
  go_wp2_with fail
  refine (UN.out _).mono ?_
  rintro e w1 ⟨rfl,rfl⟩
  go_wp2
  go_ret
  exact ⟨ret_s (by rw [HE.out];rfl),rfl⟩
theorem syn_PrintRoleQ (r:Rl) (w:World) (hs:r.le 1000000000000000):Calls Tryz.prog 103 #[rv r] w fun e w'=>e=.returned (.string (roleT r))∧Below w.heap.size w w':=by
 obtain ⟨o,n⟩:=r
 obtain ⟨h1,h2⟩:=hs
 dsimp only at h1 h2
 go_enter Tryz.func103,Tryz.ntmps103
 go_wp2
 go_ret
 exact ⟨rfl,(Below.refl _ _).alloc (Nat.le_refl _) _⟩
theorem own_two {w:World} (x y:ByteArray) (base:Nat) (hb:base≤w.heap.size):(w.alloc (.cells #[.string x,.string y] 9)).ownsRow base 9 1 (.slice (some ⟨w.heap.size,0,none⟩) 2 2) [x,y].length (strs [x,y]) :=
 ⟨rfl,.inr ⟨w.heap.size,2,#[.string x,.string y],rfl,hb,heap_alloc_new w _,(by show 2≤2;decide),(by decide),rfl,rfl⟩⟩
def printQ (q:Qv) (us:List ByteArray):ByteArray:=if rightQ q us=true then textQ ⟨q.k,q.a,q.b,us⟩ else emp
set_option maxRecDepth 100000 in
set_option maxHeartbeats 8000000 in
theorem query_Print (q:Qv) (us:List ByteArray) (w:World) (hla:q.a.le 4294967) (hlb:q.b.le 4294967) (hu:SlA w 1 q.w us.length (strs us)) (hz:∀ s∈us,s.size≤9223372036854775807) :
  Calls Tryz.prog 121 #[qv q] w fun e w'=>e=.returned (.string (printQ q us))∧Below w.heap.size w w':=by
 have RT:=Lib.hid (fun W (hb:Below w.heap.size w W)=>query_RightL q us W hla hlb (hu.below hb) hz)
 have PQ:=Lib.hid (show printQ q us=if rightQ q us=true then textQ ⟨q.k,q.a,q.b,us⟩ else emp from rfl)
 have GD:=Lib.hid (fun h=>good_of (q:=q) (us:=us) h)
 have PA:=Lib.hid (fun W=>syn_PrintRoleQ q.a W (hla.mono (by decide)))
 have PB:=Lib.hid (fun W=>syn_PrintRoleQ q.b W (hlb.mono (by decide)))
 have WQ:=Lib.hid (fun h1 h6 W=>query_Words q h1 h6 W)
 have HU:=Lib.hid hu
 generalize printQ q us=res at *
 obtain ⟨k,⟨x1,x2⟩,⟨x3,x4⟩,wv⟩:=q
 dsimp only at HU PQ GD PA PB WQ hu
 obtain ⟨wo,wc,rfl⟩:=hu.form
 clear hu hla hlb hz
 generalize rightQ ⟨k,⟨x1,x2⟩,⟨x3,x4⟩,.slice wo us.length wc⟩ us=r at *
 obtain ⟨W0,hW0⟩:∃ W,W=w.alloc (.cells #[.int .i64 k,.string x1,.string x2,.string x3,.string x4,.slice wo us.length wc] 83):=⟨_,rfl⟩
 have HT:=Lib.hid (show OneAt w #[.int .i64 k,.string x1,.string x2,.string x3,.string x4,.slice wo us.length wc] W0 by rw [hW0];exact ⟨Blk.new w _ _,(Below.refl _ _).alloc (Nat.le_refl _) _⟩)
 cases r with
 | false =>
  have R:=Lib.hid (show res=emp by rw [PQ.out];rfl)
  have RT0:=Lib.hid (RT.out W0 HT.out.low)
  obtain ⟨ca,fa,za⟩:=HT.out.a
  subst hW0
  go_enter Tryz.func121,Tryz.ntmps121
  go_wp2_with fail
  refine RT0.out.mono ?_
  rintro e w1 ⟨rfl,hb1⟩
  have HB:=Lib.hid (HT.out.low.trans (hb1.mono HT.out.low.size))
  clear hb1
  go_wp2
  go_ret
  exact ⟨ret_s R.out.symm,HB.out⟩
 | true =>
  have G:=GD.out rfl
  have R:=Lib.hid (show res=textQ ⟨k,⟨x1,x2⟩,⟨x3,x4⟩,us⟩ by rw [PQ.out];rfl)
  have hk1:1≤k:=G.lo
  have hk6:k≤6:=G.hi
  have hul:us.length≤12:=G.few
  have TS:=Lib.hid (textQ_size _ G)
  have WQ:=Lib.hid (fun W=>WQ.out hk1 hk6 W)
  have HD:=Lib.hid (fun W=>query_head k W)
  have SE:=Lib.hid (fun W=>query_secondB k W)
  have RT0:=Lib.hid (RT.out W0 HT.out.low)
  have hwl:(wordsL k).length≤2:=by unfold wordsL;(repeat' split) <;> simp
  have HX:=Lib.hid (show textQ ⟨k,⟨x1,x2⟩,⟨x3,x4⟩,us⟩=joinB (headW k :: roleT ⟨x1,x2⟩ :: (wordsL k++((if secB k=true then [roleT ⟨x3,x4⟩] else [])++us))) ⟨#[32]⟩ from rfl)
  generalize textQ ⟨k,⟨x1,x2⟩,⟨x3,x4⟩,us⟩=tq at *
  generalize headW k=hw at *
  generalize roleT ⟨x1,x2⟩=ra at *
  generalize roleT ⟨x3,x4⟩=rb at *
  unfold WordsR at WQ
  generalize wordsL k=wl at *
  generalize secB k=sb at *
  obtain ⟨si,hsi,hs0,hs1,hs2⟩:=info_parts str_info
  have HSI:=Lib.hid hsi
  clear hsi G GD PQ
  obtain ⟨ca,fa,za⟩:=HT.out.a
  subst hW0
  go_enter Tryz.func121,Tryz.ntmps121
  go_wp2_with fail
  refine RT0.out.mono ?_
  rintro e w1 ⟨rfl,hb1⟩
  have HT:=Lib.hid (HT.out.later hb1)
  clear hb1 RT0 ca fa za
  go_upto_region 3 with fail
  go_cut [3] (fun s3 wx => ∃ (V:World) (a5:Option Addr) (c5:Nat),V=wx∧s3=.slice a5 (2+wl.length) c5∧Hid (OneAt w #[.int .i64 k,.string x1,.string x2,.string x3,.string x4,.slice wo us.length wc] V)∧Hid (V.ownsRow (w.heap.size+1) 9 1 (.slice a5 (2+wl.length) c5) (2+wl.length) (strs (hw :: ra :: wl))))
  case first =>
   refine wp_region_held_drew (S:=(fun W => ∀ o,W.cell? ⟨w.heap.size,o,none⟩=(#[.int .i64 k,.string x1,.string x2,.string x3,.string x4,.slice wo us.length wc]:Array Value)[o]?)) (by kernel_rfl) HT.out.drew.a.1 (fun hHeld=>?_)
   have HT:=Lib.hid HT.out.drew
   obtain ⟨wk,hwk⟩:∃ W,W=w1.drew:=⟨_,rfl⟩
   rw [← hwk] at HT hHeld ⊢
   clear hwk
   (refine hyes 0 ?_);(refine hyes 1 ?_);(refine hyes 3 ?_);(refine hyes 4 ?_);(refine hyes 7 ?_);(try simp only [Act.put,List.setIfInBounds_toArray,List.set])
   (refine held_call 2 rfl (by kernel_rfl) (fun K hK=>?_);go_simp)
   go_at_call 174;refine (HD.out _).mono ?_;rintro e wz2 ⟨rfl,rfl⟩
   (refine hK.out _ _ (HT.out.a.1) (fun hHeld=>?_);clear hK K;(try simp only [Act.put,List.setIfInBounds_toArray,List.set]))
   (refine held_call 5 rfl (by kernel_rfl) (fun K hK=>?_);go_simp)
   go_at_call 103;refine (PA.out _).mono ?_;rintro e wz5 ⟨rfl,hbq⟩
   have HT:=Lib.hid (HT.out.later hbq)
   clear hbq
   (refine hK.out _ _ (HT.out.a.1) (fun hHeld=>?_);clear hK K;(try simp only [Act.put,List.setIfInBounds_toArray,List.set]))
   refine wpAnyH_ready (rs:=[6,8]) (by kernel_rfl) (by simp) (AllReadyH.cons rfl (fun K hK=>?_) (AllReadyH.cons rfl (fun K hK=>?_) AllReadyH.nil))
   ·go_simp
    obtain ⟨wz6,hwn⟩:∃ V,V=wz5.alloc (.cells #[.string hw,.string ra] 9):=⟨_,rfl⟩
    obtain ⟨bn,hbn⟩:∃ b,b=wz5.heap.size:=⟨_,rfl⟩
    rw [← hwn,← hbn]
    have hbq:Below wz5.heap.size wz5 wz6:=by rw [hwn];exact (Below.refl _ _).alloc (Nat.le_refl _) _
    have HO:=Lib.hid (show wz6.ownsRow (w.heap.size+1) 9 1 (.slice (some ⟨bn,0,none⟩) 2 2) 2 (strs [hw,ra]) by rw [hwn,hbn];exact own_two hw ra (w.heap.size+1) HT.out.a.2.2)
    have HT:=Lib.hid (HT.out.later hbq)
    clear hbq hwn hbn
    (refine hK.out _ _ (HT.out.a.1) (fun hHeld=>?_);clear hK K;(try simp only [Act.put,List.setIfInBounds_toArray,List.set]))
    (refine held_call 8 rfl (by kernel_rfl) (fun K hK=>?_);go_simp)
    go_at_call 175;refine (WQ.out _).mono ?_;rintro e wz8 ⟨b2,_,rfl,hcell2,hbq⟩
    have HWL:=Lib.hid (show SlA wz8 1 (.slice (some ⟨b2,0,none⟩) wl.length wl.length) wl.length (strs wl) from .inl ⟨by simp [strs],by simp only [maxLen];omega,.inr ⟨b2,0,wl.length,rfl,Nat.le_refl _,by simp only [maxLen];omega,(Array.getElem?_eq_some_iff.1 hcell2).1,fun j u hu=>by rw [Nat.zero_add,cell_of_row _ b2 j _ _ _ hcell2];simpa using hu⟩⟩)
    have HO:=Lib.hid (own_below HO.out hbq)
    have HT:=Lib.hid (HT.out.later hbq)
    clear hbq hcell2 WQ
    (refine hK.out _ _ (HT.out.a.1) (fun hHeld=>?_);clear hK K;(try simp only [Act.put,List.setIfInBounds_toArray,List.set]))
    refine held_call 9 rfl (by kernel_rfl) (fun K hK=>?_)
    have hsz:w.heap.size+1≤wz8.heap.size:=HT.out.a.2.2
    refine step_row rfl _ _ 27 rfl (w.heap.size+1) 9 si _ 1 16 Tryz.underlying27 HSI.out hs0 hs1 hs2 (by decide) rfl (by decide) _ 2 _ rfl HO.out _ wl.length _ rfl HWL.out (strs_one wl) (by omega) hsz ?_
    intro a5 c5 wc9 hown5 hg5
    have HT2:OneAt w #[.int .i64 k,.string x1,.string x2,.string x3,.string x4,.slice wo us.length wc] wc9:=⟨HT.out.a.grown hg5 (fun e=>by have:=(HO.out.lt _ e.symm).1;omega),below_own HT.out.low HO.out hg5 HT.out.low.size (by omega)⟩
    have HO5:=Lib.hid (show wc9.ownsRow (w.heap.size+1) 9 1 (.slice a5 (2+wl.length) c5) (2+wl.length) (strs (hw :: ra :: wl)) from hown5)
    have HT:=Lib.hid HT2
    clear hown5 hg5 HO HWL hsz HT2
    (refine hK.out _ _ (HT.out.a.1) (fun hHeld=>?_);clear hK K;(try simp only [Act.put,List.setIfInBounds_toArray,List.set]))
    (refine hyes 10 ?_);(try simp only [Act.put,List.setIfInBounds_toArray,List.set])
    refine wpAnyH_done (by kernel_rfl) ?_ _
    clear hHeld
    obtain ⟨wd,hwd⟩:∃ W,W=wc9:=⟨_,rfl⟩
    rw [← hwd] at HT HO5 ⊢
    clear hwd
    go_wp2_with fail
    go_meet
    exact ⟨_,a5,c5,rfl,rfl,HT,HO5⟩
   ·go_simp
    go_at_call 175;refine (WQ.out _).mono ?_;rintro e wz8 ⟨b2,_,rfl,hcell2,hbq⟩
    have HWL:=Lib.hid (show SlA wz8 1 (.slice (some ⟨b2,0,none⟩) wl.length wl.length) wl.length (strs wl) from .inl ⟨by simp [strs],by simp only [maxLen];omega,.inr ⟨b2,0,wl.length,rfl,Nat.le_refl _,by simp only [maxLen];omega,(Array.getElem?_eq_some_iff.1 hcell2).1,fun j u hu=>by rw [Nat.zero_add,cell_of_row _ b2 j _ _ _ hcell2];simpa using hu⟩⟩)
    have HT:=Lib.hid (HT.out.later hbq)
    clear hbq hcell2 WQ
    (refine hK.out _ _ (HT.out.a.1) (fun hHeld=>?_);clear hK K;(try simp only [Act.put,List.setIfInBounds_toArray,List.set]))
    (refine held_call 6 rfl (by kernel_rfl) (fun K hK=>?_);go_simp)
    obtain ⟨wz6,hwn⟩:∃ V,V=wz8.alloc (.cells #[.string hw,.string ra] 9):=⟨_,rfl⟩
    obtain ⟨bn,hbn⟩:∃ b,b=wz8.heap.size:=⟨_,rfl⟩
    rw [← hwn,← hbn]
    have hbq:Below wz8.heap.size wz8 wz6:=by rw [hwn];exact (Below.refl _ _).alloc (Nat.le_refl _) _
    have HO:=Lib.hid (show wz6.ownsRow (w.heap.size+1) 9 1 (.slice (some ⟨bn,0,none⟩) 2 2) 2 (strs [hw,ra]) by rw [hwn,hbn];exact own_two hw ra (w.heap.size+1) HT.out.a.2.2)
    have HWL:=Lib.hid (HWL.out.below hbq)
    have HT:=Lib.hid (HT.out.later hbq)
    clear hbq hwn hbn
    (refine hK.out _ _ (HT.out.a.1) (fun hHeld=>?_);clear hK K;(try simp only [Act.put,List.setIfInBounds_toArray,List.set]))
    refine held_call 9 rfl (by kernel_rfl) (fun K hK=>?_)
    have hsz:w.heap.size+1≤wz6.heap.size:=HT.out.a.2.2
    refine step_row rfl _ _ 27 rfl (w.heap.size+1) 9 si _ 1 16 Tryz.underlying27 HSI.out hs0 hs1 hs2 (by decide) rfl (by decide) _ 2 _ rfl HO.out _ wl.length _ rfl HWL.out (strs_one wl) (by omega) hsz ?_
    intro a5 c5 wc9 hown5 hg5
    have HT2:OneAt w #[.int .i64 k,.string x1,.string x2,.string x3,.string x4,.slice wo us.length wc] wc9:=⟨HT.out.a.grown hg5 (fun e=>by have:=(HO.out.lt _ e.symm).1;omega),below_own HT.out.low HO.out hg5 HT.out.low.size (by omega)⟩
    have HO5:=Lib.hid (show wc9.ownsRow (w.heap.size+1) 9 1 (.slice a5 (2+wl.length) c5) (2+wl.length) (strs (hw :: ra :: wl)) from hown5)
    have HT:=Lib.hid HT2
    clear hown5 hg5 HO HWL hsz HT2
    (refine hK.out _ _ (HT.out.a.1) (fun hHeld=>?_);clear hK K;(try simp only [Act.put,List.setIfInBounds_toArray,List.set]))
    (refine hyes 10 ?_);(try simp only [Act.put,List.setIfInBounds_toArray,List.set])
    refine wpAnyH_done (by kernel_rfl) ?_ _
    clear hHeld
    obtain ⟨wd,hwd⟩:∃ W,W=wc9:=⟨_,rfl⟩
    rw [← hwd] at HT HO5 ⊢
    clear hwd
    go_wp2_with fail
    go_meet
    exact ⟨_,a5,c5,rfl,rfl,HT,HO5⟩
  case rest =>
  clear HT
  obtain ⟨V,a5,c5,rfl,rfl,HT,HO⟩:=hcut
  obtain ⟨ca,fa,za⟩:=HT.out.a
  go_wp2_with fail
  refine (SE.out _).mono ?_
  rintro e w6 ⟨rfl,hw6⟩
  subst hw6
  have hw2:(hw :: ra :: wl).length=2+wl.length:=by simp only [List.length_cons];omega
  go_upto_if 19 with fail
  clear ca fa za
  go_cut [3] (fun s3 wx => ∃ (V:World) (a6:Option Addr) (c6:Nat) (zs:List ByteArray),V=wx∧s3=.slice a6 zs.length c6∧Hid (zs=hw :: ra :: wl++(if sb=true then [rb] else []))∧Hid (OneAt w #[.int .i64 k,.string x1,.string x2,.string x3,.string x4,.slice wo us.length wc] V)∧Hid (V.ownsRow (w.heap.size+1) 9 1 (.slice a6 zs.length c6) zs.length (strs zs)))
  case first =>
   obtain ⟨ca,fa,za⟩:=HT.out.a
   cases sb with
   | false =>
    go_wp2
    go_meet
    exact ⟨_,a5,c5,hw :: ra :: wl,rfl,by rw [hw2],Lib.hid (by simp),HT,by rw [hw2];exact HO⟩
   | true =>
    go_wp2_with fail
    refine (PB.out _).mono ?_
    rintro e w7 ⟨rfl,hb7⟩
    have HT7:=Lib.hid (HT.out.later hb7)
    have HO7:=Lib.hid (own_below HO.out hb7)
    clear hb7 ca fa za
    have hsz:w.heap.size+1≤w7.heap.size:=HT7.out.a.2.2
    go_wp2_with (at_builtin;refine halt_ ?_)
    unfold Halt_
    refine app_own Tryz.underlying27 str_info rfl (by decide) (by decide) rfl _ _ rfl (w.heap.size+1) rfl (HO7.out.alloc _) [.string rb] rfl (heap_new1 _ _) rfl (str1 _) (by omega) (by simp;omega) ?_
    intro a8 c8 w8 hown8 hg8
    have HT8:=Lib.hid (show OneAt w #[.int .i64 k,.string x1,.string x2,.string x3,.string x4,.slice wo us.length wc] w8 from ⟨(HT7.out.a.alloc _).grown hg8 (fun e=>by have:=(HO7.out.lt _ e.symm).1;omega),below_own (HT7.out.low.alloc HT7.out.low.size _) (HO7.out.alloc _) hg8 (by simp;omega) (by omega)⟩)
    have hz8:(hw :: ra :: wl++[rb]).length=2+wl.length+1:=by simp only [List.length_append,List.length_cons,List.length_nil];omega
    have HO8:=Lib.hid (show w8.ownsRow (w.heap.size+1) 9 1 (.slice a8 (hw :: ra :: wl++[rb]).length c8) (hw :: ra :: wl++[rb]).length (strs (hw :: ra :: wl++[rb])) by rw [hz8,show strs (hw :: ra :: wl++[rb])=strs (hw :: ra :: wl)++[.string rb] by simp [strs]];exact hown8)
    clear hown8 hg8
    go_wp2
    go_meet
    exact ⟨_,a8,c8,hw :: ra :: wl++[rb],rfl,by rw [hz8],Lib.hid (by simp),HT8,HO8⟩
  case rest =>
  clear HT HO
  obtain ⟨V,a6,c6,zs,rfl,rfl,HZ,HT,HO⟩:=hcut
  have hzl:zs.length≤5:=by
   rw [HZ.out]
   cases sb <;> simp <;> omega
  have hsz:w.heap.size+1≤V.heap.size:=HT.out.a.2.2
  obtain ⟨ca,fa,za⟩:=HT.out.a
  go_wp2_with (at_builtin;refine halt_ ?_)
  unfold Halt_
  refine app_row Tryz.underlying27 str_info rfl (by decide) (by decide) rfl _ _ rfl (w.heap.size+1) rfl HO.out rfl (HU.out.below HT.out.low) (strs_one _) (by omega) hsz ?_
  intro a9 c9 w9 hown9 hg9
  have HB9:=Lib.hid (below_own HT.out.low HO.out hg9 HT.out.low.size (by omega))
  have HZ9:=Lib.hid (show zs++us=hw :: ra :: (wl++((if sb=true then [rb] else [])++us)) by rw [HZ.out];simp)
  have hl9:(zs++us).length=zs.length+us.length:=List.length_append
  have HJ:=Lib.hid (str_Join (.slice a9 (zs++us).length c9) (zs++us) ⟨#[32]⟩ w9 (Sl.of_own (by rw [hl9,show strs (zs++us)=strs zs++strs us by simp [strs]];exact hown9)).a (by omega) (by rw [HZ9.out,← HX.out];exact Nat.le_trans TS.out (by decide)))
  rw [hl9,HZ9.out,← HX.out,← R.out] at HJ
  clear hown9 hg9 ca fa za
  go_wp2_with fail
  refine HJ.out.mono ?_
  rintro e w10 ⟨rfl,hb10⟩
  have HB10:=Lib.hid (HB9.out.trans (hb10.mono HB9.out.size))
  clear hb10
  go_wp2
  go_ret
  exact ⟨rfl,HB10.out⟩
end
section
open Go.RowKit Go.Shelf

theorem sb_below {B b:Nat} {l:List UInt8} {w w':World} (h:SbAt B b l w) (hb:Below w.heap.size w w'):SbAt B b l w':=by
 have one:∀ p,Lib.BuilderAtF 113 5 B b p (Lib.byteCells l) w→Lib.BuilderAtF 113 5 B b p (Lib.byteCells l) w':=fun p ⟨h1,v,h2,h3,h4⟩ =>
  ⟨h1,v,(hb.block b (Array.getElem?_eq_some_iff.1 h2).1).trans h2,h3.kept (grown_of_below hb none) (by cases v.ownBlock <;> simp),h4⟩
 exact h.elim (fun x=>.inl (one _ x)) (fun x=>.inr (one _ x))
theorem policy_Print1 (v:Value) (xs:List ByteArray) (B b:Nat) (l:List UInt8) (w:World) (h:SlA w 1 v xs.length (strs xs)) (hN:xs.length≤1000) (hj:(joinB xs ⟨#[32]⟩).size≤1000000) (hs:SbAt B b l w) (hl:l.length≤1000000000) (hB:B≤w.heap.size) :
  Calls Tryz.prog 119 #[v,.pointer (some ⟨b,0,none⟩)] w fun e w'=>e=.returned (.tuple #[])∧SbAt B b (l++(bl (joinB xs ⟨#[32]⟩)++[10])) w'∧Below B w w':=by
 have J:=Lib.hid (str_Join v xs ⟨#[32]⟩ w h (by omega) (by omega))
 have HS:=Lib.hid hs
 generalize joinB xs ⟨#[32]⟩=t at *
 have hsz:(t++⟨#[10]⟩:ByteArray).size=t.size+1:=by rw [ByteArray.size_append];rfl
 have hbl:bl (t++⟨#[10]⟩)=bl t++[10]:=by rw [bl_append]
 have W:=Lib.hid (fun W (hS:SbAt B b l W) (hBW:B≤W.heap.size)=>sb_WriteString B b l (t++⟨#[10]⟩) W hS (by omega) hBW)
 rw [hbl] at W
 obtain ⟨a,c,rfl⟩:=h.form
 clear h hs hbl
 go_enter Tryz.func119,Tryz.ntmps119
 go_wp2_with fail
 refine J.out.mono ?_
 rintro e w1 ⟨rfl,hb1⟩
 have HB1:=Lib.hid hb1
 have HS1:=Lib.hid (sb_below HS.out hb1)
 have hle:=hb1.size
 clear hb1 J
 go_wp2_with fail
 refine (W.out _ HS1.out (by omega)).mono ?_
 rintro e w2 ⟨rfl,hs2,hb2,_⟩
 have HS2:=Lib.hid hs2
 have HB2:=Lib.hid ((HB1.out.mono hB).trans hb2)
 clear hs2 hb2 W
 go_wp2
 go_end0
 exact ⟨rfl,HS2.out,HB2.out⟩
end
end Go.Proofs.YtomhekohcadijaaGreatDoor
