/- Parts: PolRefA PolRefC PolRefS -/
import Derived.Test.YtomhekohcadijaaGreatDoorPart17
namespace Go.Proofs.YtomhekohcadijaaGreatDoor
section
open Go.RowKit Go.Shelf

set_option maxRecDepth 100000 in
set_option maxHeartbeats 2000000 in
theorem ref5_line_ask (s:ByteArray) (v0 v1 v2 v3:Value) (p:Pd) (zs:List (Qd × Value)) (w:World) (hp:PolD w v0 v1 v2 v3 p zs) (hs:s.size≤1000000) (hl0:p.l.length≤100) (hl1:p.g.length≤100) (hl2:p.h.length≤100) (hl3:p.q.length≤100) (x:Tok) (r:List Tok) (ti:Int) (ht:tokens (bl s)=(x :: r,ti,0)) (t1:x.tx=wAlways) :
  Calls Tryz.prog 70 #[pv v0 v1 v2 v3,.string s] w fun e w'=>LineR (lineP p s) w e w':=by
 have HL0:=Lib.hid hl0
 have HL1:=Lib.hid hl1
 have HL2:=Lib.hid hl2
 have HL3:=Lib.hid (show zs.length≤100 by rw [← hp.z,List.length_map] at hl3;exact hl3)
 have HPD:=Lib.hid hp
 obtain ⟨a0,c0,rfl⟩:=hp.rs.form
 obtain ⟨a1,c1,rfl⟩:=hp.rg.form
 obtain ⟨a2,c2,rfl⟩:=hp.rh.form
 obtain ⟨a3,c3,rfl⟩:=hp.rq.form
 have HT:=Lib.hid (TwoAt.new w #[.slice a0 p.l.length c0,.slice a1 p.g.length c1,.slice a2 p.h.length c2,.slice a3 zs.length c3] #[nilV,nilV,nilV,nilV] 26 26)
 have TK:=Lib.hid (fun W=>ref2_Tokens_any s W (by omega))
 have E:=Lib.hid (show lineP p s=lineT p s (tokens (bl s)) from rfl)
 generalize lineP p s=res at E ⊢
 clear hp hl0 hl1 hl2 hl3
 have hto:=tokens_ok (bl s)
 rw [ht] at E TK hto
 clear ht
 dsimp only at hto
 go_enter Tryz.func70,Tryz.ntmps70
 go_wp2_with fail
 refine (TK.out _).mono ?_
 rintro e w1 ⟨va,rfl,hown1,hb1⟩
 dsimp only at hown1
 obtain ⟨sa,sc,rfl⟩:=own_form hown1
 have HS1:=Lib.hid (Sl.of_own hown1)
 have HT:=Lib.hid (HT.out.later hb1)
 clear hown1 hb1 TK
 have dl:((((r.length:Int)+1) == 0))=false:=by rw [beq_eq_false_iff_ne];omega
 obtain ⟨tb,off,cap,he1,hc1,hm1,hb1,hx1⟩:=HS1.out.pos (by simp)
 simp only [Value.slice.injEq] at he1
 obtain ⟨rfl,_,rfl⟩:=he1
 obtain ⟨p0,p1,p2⟩:=tk_head hx1
 have TX:=Lib.hid (show (⟨x.text.toArray⟩:ByteArray)=x.tx from rfl)
 rw [TX.out] at p1
 clear hx1 TX
 have e1:(x.tx.toList == [97,108,119,97,121,115])=true:=tx_eq t1
 have A1:=Lib.hid (show x.tx=wAlways∨x.tx=wCan from .inl t1)
 clear t1
 have E:=Lib.hid (E.out.trans (lineT_ask (p:=p) (s:=s) (r:=r) (i:=ti) A1.out))
 have QP:=Lib.hid (ref4_ParseO s w1 (by omega))
 generalize parseQ s=pq at E QP
 obtain ⟨⟨k,⟨x1,x2⟩,⟨x3,x4⟩,us⟩,at0,y0⟩:=pq
 dsimp only at E QP
 go_wp2_with fail
 refine QP.out.mono ?_
 rintro e w2 ⟨v,rfl,hos,hb2⟩
 dsimp only at hos ⊢
 obtain ⟨vo,vc,rfl⟩:=own_form hos
 have HZW:=Lib.hid (show w.heap.size+1 < w1.heap.size from HT.out.b.2.2)
 have HT2:=Lib.hid (HT.out.later hb2)
 have hbc:=((Below.refl w2.heap.size w2).alloc (Nat.le_refl _) (.cells #[.int .i64 k,.string x1,.string x2,.string x3,.string x4,.slice vo us.length vc] 83))
 have HX3:=Lib.hid (show Blk (w2.alloc (.cells #[.int .i64 k,.string x1,.string x2,.string x3,.string x4,.slice vo us.length vc] 83)) w2.heap.size #[.int .i64 k,.string x1,.string x2,.string x3,.string x4,.slice vo us.length vc] from (Blk.new w2 #[.int .i64 k,.string x1,.string x2,.string x3,.string x4,.slice vo us.length vc] 83).congr rfl)
 have HOW:=Lib.hid (own_below hos hbc)
 have HT3:=Lib.hid (HT2.out.later hbc)
 have HB3:=Lib.hid HT3.out.low
 have HP3:=Lib.hid (HPD.out.below HB3.out)
 have HLN:=Lib.hid HL3.out
 clear hb2 hbc QP HT HT2 hos
 go_wp2_with fail
 obtain ⟨W3,hW3⟩:∃ X,X=(w2.alloc (.cells #[.int .i64 k,.string x1,.string x2,.string x3,.string x4,.slice vo us.length vc] 83)):=⟨_,rfl⟩
 rw [← hW3] at HX3 HT3 HB3 HP3 HOW ⊢
 clear hW3
 refine wp_region_last (S:=fun W=>(∀ o,W.cell? ⟨w.heap.size,o,none⟩=(#[.slice a0 p.l.length c0,.slice a1 p.g.length c1,.slice a2 p.h.length c2,.slice a3 zs.length c3]:Array Value)[o]?)∧(∀ o,W.cell? ⟨w2.heap.size,o,none⟩=(#[.int .i64 k,.string x1,.string x2,.string x3,.string x4,.slice vo us.length vc]:Array Value)[o]?)) 8 (by kernel_rfl) ⟨(HT3.out.drew).a.1,(HX3.out.below (below_drew (Below.refl _ _))).1⟩ (fun hHeld=>?_)
 have hd:=below_drew (Below.refl W3.heap.size W3)
 have HS0:=Lib.hid (HT3.out.later hd).a
 have HS1:=Lib.hid (HX3.out.below hd)
 have HRW:=Lib.hid (HP3.out.rq.below hd)
 have HTZ:=Lib.hid (HT3.out.later hd)
 have HBZ:=Lib.hid (HB3.out.trans (hd.mono HB3.out.size))
 have HPZ:=Lib.hid (HP3.out.below hd)
 have HOWZ:=Lib.hid (own_below HOW.out hd)
 obtain ⟨WZ,hWZ⟩:∃ X,X=W3.drew:=⟨_,rfl⟩
 rw [← hWZ] at HS0 HS1 HRW HTZ HBZ HPZ HOWZ hHeld ⊢
 clear hd hWZ HT3 HX3 HB3 HP3 HOW
 have HZ:=Lib.hid (Below.refl WZ.heap.size WZ)
 obtain ⟨inf,hin,hs0,hs1,hs2⟩:=info_parts qy_infoP
 have HIN:=Lib.hid hin
 clear hin
 (refine lyes 1 ?_);(refine lyes 2 ?_);(refine lyes 4 ?_);(try simp only [Act.put,List.setIfInBounds_toArray,List.set])
 refine last_two 0 5 rfl rfl (by kernel_rfl) (fun K hK=>?_) (fun K hK=>?_)
 ·go_simp
  obtain ⟨V1,hV1⟩:∃ X,X=WZ.alloc (.cells #[] 83):=⟨_,rfl⟩
  rw [← hV1]
  have hbq:Below WZ.heap.size WZ V1:=by rw [hV1];exact (Below.refl _ _).alloc (Nat.le_refl _) _
  have HZ:=Lib.hid (HZ.out.trans (hbq.mono HZ.out.size))
  have HR:=Lib.hid (show V1.ownsRow WZ.heap.size 83 6 (.slice (some ⟨WZ.heap.size,0,none⟩) 0 0) 0 [] by rw [hV1];exact World.ownsRow_made WZ #[] 0 (Nat.le_refl _) (Nat.zero_le _) (by simp))
  clear hbq hV1
  (refine hK.out _ _ ⟨(HS0.out.below HZ.out).1,(HS1.out.below HZ.out).1⟩ (fun hHeld=>?_);clear hK K;(try simp only [Act.put,List.setIfInBounds_toArray,List.set]))
  refine last_two 3 5 rfl rfl (by kernel_rfl) (fun K hK=>?_) (fun K hK=>?_)
  ·refine step_row rfl _ _ 24 rfl WZ.heap.size 83 inf _ 6 96 Tryz.underlying24 HIN.out hs0 hs1 hs2 (by decide) rfl (by decide) _ 0 _ rfl HR.out _ zs.length _ rfl (HRW.out.below HZ.out) HPZ.out.one (by have:=HLN.out;omega) HZ.out.size ?_
   intro a3' c3' V2 hown3 hg3
   simp only [Nat.zero_add,List.nil_append] at hown3 ⊢
   have HZ:=Lib.hid (below_own HZ.out HR.out hg3 HZ.out.size (Nat.le_refl _))
   have HR:=Lib.hid hown3
   clear hown3 hg3
   (refine hK.out _ _ ⟨(HS0.out.below HZ.out).1,(HS1.out.below HZ.out).1⟩ (fun hHeld=>?_);clear hK K;(try simp only [Act.put,List.setIfInBounds_toArray,List.set]))
   (refine last_call 5 rfl (by kernel_rfl) (fun K hK=>?_);go_simp)
   have HT:Hid (RowsTwo WZ _ _ _ _ _ _ _ _ (V2.alloc (.cells #[.int .i64 k,.string x1,.string x2,.string x3,.string x4,.slice vo us.length vc] 83))):=Lib.hid (RowsTwo.one (cs:=(qz (⟨k,⟨x1,x2⟩,⟨x3,x4⟩,us⟩,.slice vo us.length vc)).cells) (m:=1) HZ.out HR.out rfl (by decide))
   obtain ⟨V3,hV3⟩:∃ X,X=V2.alloc (.cells #[.int .i64 k,.string x1,.string x2,.string x3,.string x4,.slice vo us.length vc] 83):=⟨_,rfl⟩
   rw [← hV3]
   have hbq:Below V2.heap.size V2 V3:=by rw [hV3];exact (Below.refl _ _).alloc (Nat.le_refl _) _
   have HZ:=Lib.hid (HZ.out.trans (hbq.mono HZ.out.size))
   rw [← hV3] at HT
   clear hbq hV3 HR
   (refine hK.out _ _ ⟨(HS0.out.below HZ.out).1,(HS1.out.below HZ.out).1⟩ (fun hHeld=>?_);clear hK K;(try simp only [Act.put,List.setIfInBounds_toArray,List.set]))
   refine last_call 6 rfl (by kernel_rfl) (fun K hK=>?_)
   refine step_rowE rfl _ _ 24 rfl WZ.heap.size 83 inf _ 6 96 Tryz.underlying24 HIN.out hs0 hs1 hs2 (by decide) rfl (by decide) _ (zs.length) _ rfl HT.out.o1 _ 1 _ rfl (Sl.of_own HT.out.o2).a (qv_one (qz (⟨k,⟨x1,x2⟩,⟨x3,x4⟩,us⟩,.slice vo us.length vc)) ⟨vo,us.length,vc,rfl⟩) (by have:=HLN.out;omega) HT.out.low.size ?_
   intro a6 c6 V6 hown6 hg6 hne6
   have HZ:=Lib.hid (below_own HT.out.low HT.out.o1 hg6 HT.out.low.size (Nat.le_refl _))
   have HO6:=Lib.hid hown6
   clear hg6 hne6 hown6 HT
   (refine hK.out _ _ ⟨(HS0.out.below HZ.out).1,(HS1.out.below HZ.out).1⟩ (fun hHeld=>?_);clear hK K;(try simp only [Act.put,List.setIfInBounds_toArray,List.set]))
   (refine lyes 7 ?_);(try simp only [Act.put,List.setIfInBounds_toArray,List.set])
   obtain ⟨cg,fg,zg⟩:=HS0.out.below HZ.out
   (refine last_end 8 rfl (by kernel_rfl) (by kernel_rfl) (fun K hK=>?_);go_simp)
   clear cg fg zg
   have HBV:=Lib.hid (HBZ.out.trans (HZ.out.mono HBZ.out.size))
   have HTF:=Lib.hid (HTZ.out.later HZ.out)
   have ha0:=Lib.hid (HTF.out.a.put (o:=3) (v:=(.slice a6 (zs.length+1) c6)) (by simp))
   have hb0:=Lib.hid (HTF.out.b.setOther (g':=w.heap.size) (o:=3) (.slice a6 (zs.length+1) c6) (by omega))
   have HBF:=Lib.hid (HBV.out.setCell (p:=⟨w.heap.size,3,none⟩) (Nat.le_refl _) (.slice a6 (zs.length+1) c6))
   have HZ1:=Lib.hid (show w.heap.size+1 < WZ.heap.size from HTZ.out.b.2.2)
   have HNF:=Lib.hid (own_low (g:=w.heap.size) (o:=3) (x:=(.slice a6 (zs.length+1) c6)) HO6.out (by have:=HZ1.out;omega))
   have HWF:=Lib.hid (own_low (g:=w.heap.size) (o:=3) (x:=(.slice a6 (zs.length+1) c6)) (own_below HOWZ.out HZ.out) (by have:=HZW.out;omega))
   clear HO6 HOWZ
   clear HBV HTF HTZ HBZ HPZ HZ HS0 HS1 HRW
   refine hK.out _ _ ?_
   clear hK K
   obtain ⟨wd,hwd2⟩:∃ X,X=V6.setCell ⟨w.heap.size,3,none⟩ (.slice a6 (zs.length+1) c6):=⟨_,rfl⟩
   rw [← hwd2] at ha0 hb0 HBF HNF HWF ⊢
   clear hwd2
   obtain ⟨ca,fa,za⟩:=ha0.out
   obtain ⟨cb,fb,zb⟩:=hb0.out
   go_wp2
   refine bodyPost_ret (v:=.tuple #[pv (.slice a0 p.l.length c0) (.slice a1 p.g.length c1) (.slice a2 p.h.length c2) (.slice a6 (zs.length+1) c6),.int .i64 at0,.int .i64 y0]) (by simp [results,Tryz.results70,go_sem,cb]) rfl ?_
   refine ⟨_,_,_,_,zs++[(⟨k,⟨x1,x2⟩,⟨x3,x4⟩,us⟩,.slice vo us.length vc)],by rw [E.out],⟨⟨_,_,_,rfl⟩,⟨_,_,_,rfl⟩,⟨_,_,_,rfl⟩,⟨_,_,_,rfl⟩⟩,fun _=>?_,below_puts (g:=w.heap.size+1) (by omega) [(.slice a0 p.l.length c0),(.slice a1 p.g.length c1),(.slice a2 p.h.length c2),(.slice a6 (zs.length+1) c6)] 0 wd HBF.out⟩
   rw [E.out]
   exact (HPD.out.below (below_puts (g:=w.heap.size+1) (by omega) [(.slice a0 p.l.length c0),(.slice a1 p.g.length c1),(.slice a2 p.h.length c2),(.slice a6 (zs.length+1) c6)] 0 wd HBF.out)).ask (q:=⟨k,⟨x1,x2⟩,⟨x3,x4⟩,us⟩) (Sl.of_own (own_lows (g:=w.heap.size+1) HZ1.out [(.slice a0 p.l.length c0),(.slice a1 p.g.length c1),(.slice a2 p.h.length c2),(.slice a6 (zs.length+1) c6)] 0 wd HNF.out)).a (by omega) (by simp) (Sl.of_own (own_lows (g:=w.heap.size+1) HZW.out [(.slice a0 p.l.length c0),(.slice a1 p.g.length c1),(.slice a2 p.h.length c2),(.slice a6 (zs.length+1) c6)] 0 wd HWF.out)).a
  ·go_simp
   have HT:Hid (RowsTwo WZ _ _ _ _ _ _ _ _ (V1.alloc (.cells #[.int .i64 k,.string x1,.string x2,.string x3,.string x4,.slice vo us.length vc] 83))):=Lib.hid (RowsTwo.one (cs:=(qz (⟨k,⟨x1,x2⟩,⟨x3,x4⟩,us⟩,.slice vo us.length vc)).cells) (m:=1) HZ.out HR.out rfl (by decide))
   obtain ⟨V2,hV2⟩:∃ X,X=V1.alloc (.cells #[.int .i64 k,.string x1,.string x2,.string x3,.string x4,.slice vo us.length vc] 83):=⟨_,rfl⟩
   rw [← hV2]
   have hbq:Below V1.heap.size V1 V2:=by rw [hV2];exact (Below.refl _ _).alloc (Nat.le_refl _) _
   have HZ:=Lib.hid (HZ.out.trans (hbq.mono HZ.out.size))
   rw [← hV2] at HT
   clear hbq hV2 HR
   (refine hK.out _ _ ⟨(HS0.out.below HZ.out).1,(HS1.out.below HZ.out).1⟩ (fun hHeld=>?_);clear hK K;(try simp only [Act.put,List.setIfInBounds_toArray,List.set]))
   refine last_call 3 rfl (by kernel_rfl) (fun K hK=>?_)
   refine step_rowE rfl _ _ 24 rfl WZ.heap.size 83 inf _ 6 96 Tryz.underlying24 HIN.out hs0 hs1 hs2 (by decide) rfl (by decide) _ 0 _ rfl HT.out.o1 _ zs.length _ rfl (HRW.out.below HZ.out) HPZ.out.one (by have:=HLN.out;omega) HZ.out.size ?_
   intro a3' c3' V3 hown3 hg3 hne3
   simp only [Nat.zero_add,List.nil_append] at hown3 hne3 ⊢
   have HT:=Lib.hid (HT.out.grow1 hown3 hg3 hne3)
   have HZ:=Lib.hid HT.out.low
   clear hown3 hg3 hne3
   (refine hK.out _ _ ⟨(HS0.out.below HZ.out).1,(HS1.out.below HZ.out).1⟩ (fun hHeld=>?_);clear hK K;(try simp only [Act.put,List.setIfInBounds_toArray,List.set]))
   refine last_call 6 rfl (by kernel_rfl) (fun K hK=>?_)
   refine step_rowE rfl _ _ 24 rfl WZ.heap.size 83 inf _ 6 96 Tryz.underlying24 HIN.out hs0 hs1 hs2 (by decide) rfl (by decide) _ (zs.length) _ rfl HT.out.o1 _ 1 _ rfl (Sl.of_own HT.out.o2).a (qv_one (qz (⟨k,⟨x1,x2⟩,⟨x3,x4⟩,us⟩,.slice vo us.length vc)) ⟨vo,us.length,vc,rfl⟩) (by have:=HLN.out;omega) HT.out.low.size ?_
   intro a6 c6 V6 hown6 hg6 hne6
   have HZ:=Lib.hid (below_own HT.out.low HT.out.o1 hg6 HT.out.low.size (Nat.le_refl _))
   have HO6:=Lib.hid hown6
   clear hg6 hne6 hown6 HT
   (refine hK.out _ _ ⟨(HS0.out.below HZ.out).1,(HS1.out.below HZ.out).1⟩ (fun hHeld=>?_);clear hK K;(try simp only [Act.put,List.setIfInBounds_toArray,List.set]))
   (refine lyes 7 ?_);(try simp only [Act.put,List.setIfInBounds_toArray,List.set])
   obtain ⟨cg,fg,zg⟩:=HS0.out.below HZ.out
   (refine last_end 8 rfl (by kernel_rfl) (by kernel_rfl) (fun K hK=>?_);go_simp)
   clear cg fg zg
   have HBV:=Lib.hid (HBZ.out.trans (HZ.out.mono HBZ.out.size))
   have HTF:=Lib.hid (HTZ.out.later HZ.out)
   have ha0:=Lib.hid (HTF.out.a.put (o:=3) (v:=(.slice a6 (zs.length+1) c6)) (by simp))
   have hb0:=Lib.hid (HTF.out.b.setOther (g':=w.heap.size) (o:=3) (.slice a6 (zs.length+1) c6) (by omega))
   have HBF:=Lib.hid (HBV.out.setCell (p:=⟨w.heap.size,3,none⟩) (Nat.le_refl _) (.slice a6 (zs.length+1) c6))
   have HZ1:=Lib.hid (show w.heap.size+1 < WZ.heap.size from HTZ.out.b.2.2)
   have HNF:=Lib.hid (own_low (g:=w.heap.size) (o:=3) (x:=(.slice a6 (zs.length+1) c6)) HO6.out (by have:=HZ1.out;omega))
   have HWF:=Lib.hid (own_low (g:=w.heap.size) (o:=3) (x:=(.slice a6 (zs.length+1) c6)) (own_below HOWZ.out HZ.out) (by have:=HZW.out;omega))
   clear HO6 HOWZ
   clear HBV HTF HTZ HBZ HPZ HZ HS0 HS1 HRW
   refine hK.out _ _ ?_
   clear hK K
   obtain ⟨wd,hwd2⟩:∃ X,X=V6.setCell ⟨w.heap.size,3,none⟩ (.slice a6 (zs.length+1) c6):=⟨_,rfl⟩
   rw [← hwd2] at ha0 hb0 HBF HNF HWF ⊢
   clear hwd2
   obtain ⟨ca,fa,za⟩:=ha0.out
   obtain ⟨cb,fb,zb⟩:=hb0.out
   go_wp2
   refine bodyPost_ret (v:=.tuple #[pv (.slice a0 p.l.length c0) (.slice a1 p.g.length c1) (.slice a2 p.h.length c2) (.slice a6 (zs.length+1) c6),.int .i64 at0,.int .i64 y0]) (by simp [results,Tryz.results70,go_sem,cb]) rfl ?_
   refine ⟨_,_,_,_,zs++[(⟨k,⟨x1,x2⟩,⟨x3,x4⟩,us⟩,.slice vo us.length vc)],by rw [E.out],⟨⟨_,_,_,rfl⟩,⟨_,_,_,rfl⟩,⟨_,_,_,rfl⟩,⟨_,_,_,rfl⟩⟩,fun _=>?_,below_puts (g:=w.heap.size+1) (by omega) [(.slice a0 p.l.length c0),(.slice a1 p.g.length c1),(.slice a2 p.h.length c2),(.slice a6 (zs.length+1) c6)] 0 wd HBF.out⟩
   rw [E.out]
   exact (HPD.out.below (below_puts (g:=w.heap.size+1) (by omega) [(.slice a0 p.l.length c0),(.slice a1 p.g.length c1),(.slice a2 p.h.length c2),(.slice a6 (zs.length+1) c6)] 0 wd HBF.out)).ask (q:=⟨k,⟨x1,x2⟩,⟨x3,x4⟩,us⟩) (Sl.of_own (own_lows (g:=w.heap.size+1) HZ1.out [(.slice a0 p.l.length c0),(.slice a1 p.g.length c1),(.slice a2 p.h.length c2),(.slice a6 (zs.length+1) c6)] 0 wd HNF.out)).a (by omega) (by simp) (Sl.of_own (own_lows (g:=w.heap.size+1) HZW.out [(.slice a0 p.l.length c0),(.slice a1 p.g.length c1),(.slice a2 p.h.length c2),(.slice a6 (zs.length+1) c6)] 0 wd HWF.out)).a
 ·go_simp
  have HO:Hid ((WZ.alloc (.cells #[.int .i64 k,.string x1,.string x2,.string x3,.string x4,.slice vo us.length vc] 83)).ownsRow WZ.heap.size _ _ _ _ _):=Lib.hid (own_alloc1 (w0:=WZ) (w:=WZ) (e:=83) (size:=6) (m:=1) (cs:=(qz (⟨k,⟨x1,x2⟩,⟨x3,x4⟩,us⟩,.slice vo us.length vc)).cells) (Nat.le_refl _) rfl (by decide))
  obtain ⟨V1,hV1⟩:∃ X,X=WZ.alloc (.cells #[.int .i64 k,.string x1,.string x2,.string x3,.string x4,.slice vo us.length vc] 83):=⟨_,rfl⟩
  rw [← hV1]
  have hbq:Below WZ.heap.size WZ V1:=by rw [hV1];exact (Below.refl _ _).alloc (Nat.le_refl _) _
  have HZ:=Lib.hid (HZ.out.trans (hbq.mono HZ.out.size))
  rw [← hV1] at HO
  clear hbq hV1
  (refine hK.out _ _ ⟨(HS0.out.below HZ.out).1,(HS1.out.below HZ.out).1⟩ (fun hHeld=>?_);clear hK K;(try simp only [Act.put,List.setIfInBounds_toArray,List.set]))
  (refine last_call 0 rfl (by kernel_rfl) (fun K hK=>?_);go_simp)
  have HT:=Lib.hid (RowsTwo.new HZ.out HO.out).swap
  obtain ⟨V2,hV2⟩:∃ X,X=V1.alloc (.cells #[] 83):=⟨_,rfl⟩
  rw [← hV2]
  have hbq:Below V1.heap.size V1 V2:=by rw [hV2];exact (Below.refl _ _).alloc (Nat.le_refl _) _
  have HZ:=Lib.hid (HZ.out.trans (hbq.mono HZ.out.size))
  rw [← hV2] at HT
  clear hbq hV2 HO
  (refine hK.out _ _ ⟨(HS0.out.below HZ.out).1,(HS1.out.below HZ.out).1⟩ (fun hHeld=>?_);clear hK K;(try simp only [Act.put,List.setIfInBounds_toArray,List.set]))
  refine last_call 3 rfl (by kernel_rfl) (fun K hK=>?_)
  refine step_rowE rfl _ _ 24 rfl WZ.heap.size 83 inf _ 6 96 Tryz.underlying24 HIN.out hs0 hs1 hs2 (by decide) rfl (by decide) _ 0 _ rfl HT.out.o1 _ zs.length _ rfl (HRW.out.below HZ.out) HPZ.out.one (by have:=HLN.out;omega) HZ.out.size ?_
  intro a3' c3' V3 hown3 hg3 hne3
  simp only [Nat.zero_add,List.nil_append] at hown3 hne3 ⊢
  have HT:=Lib.hid (HT.out.grow1 hown3 hg3 hne3)
  have HZ:=Lib.hid HT.out.low
  clear hown3 hg3 hne3
  (refine hK.out _ _ ⟨(HS0.out.below HZ.out).1,(HS1.out.below HZ.out).1⟩ (fun hHeld=>?_);clear hK K;(try simp only [Act.put,List.setIfInBounds_toArray,List.set]))

  refine last_call 6 rfl (by kernel_rfl) (fun K hK=>?_)
  refine step_rowE rfl _ _ 24 rfl WZ.heap.size 83 inf _ 6 96 Tryz.underlying24 HIN.out hs0 hs1 hs2 (by decide) rfl (by decide) _ (zs.length) _ rfl HT.out.o1 _ 1 _ rfl (Sl.of_own HT.out.o2).a (qv_one (qz (⟨k,⟨x1,x2⟩,⟨x3,x4⟩,us⟩,.slice vo us.length vc)) ⟨vo,us.length,vc,rfl⟩) (by have:=HLN.out;omega) HT.out.low.size ?_
  intro a6 c6 V6 hown6 hg6 hne6
  have HZ:=Lib.hid (below_own HT.out.low HT.out.o1 hg6 HT.out.low.size (Nat.le_refl _))
  have HO6:=Lib.hid hown6
  clear hg6 hne6 hown6 HT
  (refine hK.out _ _ ⟨(HS0.out.below HZ.out).1,(HS1.out.below HZ.out).1⟩ (fun hHeld=>?_);clear hK K;(try simp only [Act.put,List.setIfInBounds_toArray,List.set]))
  (refine lyes 7 ?_);(try simp only [Act.put,List.setIfInBounds_toArray,List.set])
  obtain ⟨cg,fg,zg⟩:=HS0.out.below HZ.out
  (refine last_end 8 rfl (by kernel_rfl) (by kernel_rfl) (fun K hK=>?_);go_simp)
  clear cg fg zg
  have HBV:=Lib.hid (HBZ.out.trans (HZ.out.mono HBZ.out.size))
  have HTF:=Lib.hid (HTZ.out.later HZ.out)
  have ha0:=Lib.hid (HTF.out.a.put (o:=3) (v:=(.slice a6 (zs.length+1) c6)) (by simp))
  have hb0:=Lib.hid (HTF.out.b.setOther (g':=w.heap.size) (o:=3) (.slice a6 (zs.length+1) c6) (by omega))
  have HBF:=Lib.hid (HBV.out.setCell (p:=⟨w.heap.size,3,none⟩) (Nat.le_refl _) (.slice a6 (zs.length+1) c6))
  have HZ1:=Lib.hid (show w.heap.size+1 < WZ.heap.size from HTZ.out.b.2.2)
  have HNF:=Lib.hid (own_low (g:=w.heap.size) (o:=3) (x:=(.slice a6 (zs.length+1) c6)) HO6.out (by have:=HZ1.out;omega))
  have HWF:=Lib.hid (own_low (g:=w.heap.size) (o:=3) (x:=(.slice a6 (zs.length+1) c6)) (own_below HOWZ.out HZ.out) (by have:=HZW.out;omega))
  clear HO6 HOWZ
  clear HBV HTF HTZ HBZ HPZ HZ HS0 HS1 HRW
  refine hK.out _ _ ?_
  clear hK K
  obtain ⟨wd,hwd2⟩:∃ X,X=V6.setCell ⟨w.heap.size,3,none⟩ (.slice a6 (zs.length+1) c6):=⟨_,rfl⟩
  rw [← hwd2] at ha0 hb0 HBF HNF HWF ⊢
  clear hwd2
  obtain ⟨ca,fa,za⟩:=ha0.out
  obtain ⟨cb,fb,zb⟩:=hb0.out
  go_wp2
  refine bodyPost_ret (v:=.tuple #[pv (.slice a0 p.l.length c0) (.slice a1 p.g.length c1) (.slice a2 p.h.length c2) (.slice a6 (zs.length+1) c6),.int .i64 at0,.int .i64 y0]) (by simp [results,Tryz.results70,go_sem,cb]) rfl ?_
  refine ⟨_,_,_,_,zs++[(⟨k,⟨x1,x2⟩,⟨x3,x4⟩,us⟩,.slice vo us.length vc)],by rw [E.out],⟨⟨_,_,_,rfl⟩,⟨_,_,_,rfl⟩,⟨_,_,_,rfl⟩,⟨_,_,_,rfl⟩⟩,fun _=>?_,below_puts (g:=w.heap.size+1) (by omega) [(.slice a0 p.l.length c0),(.slice a1 p.g.length c1),(.slice a2 p.h.length c2),(.slice a6 (zs.length+1) c6)] 0 wd HBF.out⟩
  rw [E.out]
  exact (HPD.out.below (below_puts (g:=w.heap.size+1) (by omega) [(.slice a0 p.l.length c0),(.slice a1 p.g.length c1),(.slice a2 p.h.length c2),(.slice a6 (zs.length+1) c6)] 0 wd HBF.out)).ask (q:=⟨k,⟨x1,x2⟩,⟨x3,x4⟩,us⟩) (Sl.of_own (own_lows (g:=w.heap.size+1) HZ1.out [(.slice a0 p.l.length c0),(.slice a1 p.g.length c1),(.slice a2 p.h.length c2),(.slice a6 (zs.length+1) c6)] 0 wd HNF.out)).a (by omega) (by simp) (Sl.of_own (own_lows (g:=w.heap.size+1) HZW.out [(.slice a0 p.l.length c0),(.slice a1 p.g.length c1),(.slice a2 p.h.length c2),(.slice a6 (zs.length+1) c6)] 0 wd HWF.out)).a
end
section
open Go.RowKit Go.Shelf

set_option maxRecDepth 100000 in
set_option maxHeartbeats 2000000 in
theorem ref5_line_can (s:ByteArray) (v0 v1 v2 v3:Value) (p:Pd) (zs:List (Qd × Value)) (w:World) (hp:PolD w v0 v1 v2 v3 p zs) (hs:s.size≤1000000) (hl0:p.l.length≤100) (hl1:p.g.length≤100) (hl2:p.h.length≤100) (hl3:p.q.length≤100) (x:Tok) (r:List Tok) (ti:Int) (ht:tokens (bl s)=(x :: r,ti,0)) (t1:¬ x.tx=wAlways) (t2:x.tx=wCan) :
  Calls Tryz.prog 70 #[pv v0 v1 v2 v3,.string s] w fun e w'=>LineR (lineP p s) w e w':=by
 have HL0:=Lib.hid hl0
 have HL1:=Lib.hid hl1
 have HL2:=Lib.hid hl2
 have HL3:=Lib.hid (show zs.length≤100 by rw [← hp.z,List.length_map] at hl3;exact hl3)
 have HPD:=Lib.hid hp
 obtain ⟨a0,c0,rfl⟩:=hp.rs.form
 obtain ⟨a1,c1,rfl⟩:=hp.rg.form
 obtain ⟨a2,c2,rfl⟩:=hp.rh.form
 obtain ⟨a3,c3,rfl⟩:=hp.rq.form
 have HT:=Lib.hid (TwoAt.new w #[.slice a0 p.l.length c0,.slice a1 p.g.length c1,.slice a2 p.h.length c2,.slice a3 zs.length c3] #[nilV,nilV,nilV,nilV] 26 26)
 have TK:=Lib.hid (fun W=>ref2_Tokens_any s W (by omega))
 have E:=Lib.hid (show lineP p s=lineT p s (tokens (bl s)) from rfl)
 generalize lineP p s=res at E ⊢
 clear hp hl0 hl1 hl2 hl3
 have hto:=tokens_ok (bl s)
 rw [ht] at E TK hto
 clear ht
 dsimp only at hto
 go_enter Tryz.func70,Tryz.ntmps70
 go_wp2_with fail
 refine (TK.out _).mono ?_
 rintro e w1 ⟨va,rfl,hown1,hb1⟩
 dsimp only at hown1
 obtain ⟨sa,sc,rfl⟩:=own_form hown1
 have HS1:=Lib.hid (Sl.of_own hown1)
 have HT:=Lib.hid (HT.out.later hb1)
 clear hown1 hb1 TK
 have dl:((((r.length:Int)+1) == 0))=false:=by rw [beq_eq_false_iff_ne];omega
 obtain ⟨tb,off,cap,he1,hc1,hm1,hb1,hx1⟩:=HS1.out.pos (by simp)
 simp only [Value.slice.injEq] at he1
 obtain ⟨rfl,_,rfl⟩:=he1
 obtain ⟨p0,p1,p2⟩:=tk_head hx1
 have TX:=Lib.hid (show (⟨x.text.toArray⟩:ByteArray)=x.tx from rfl)
 rw [TX.out] at p1
 clear hx1 TX
 have e1:(x.tx.toList == [97,108,119,97,121,115])=false:=tx_ne t1
 have e2:(x.tx.toList == [99,97,110])=true:=tx_eq t2
 have A1:=Lib.hid (show x.tx=wAlways∨x.tx=wCan from .inr t2)
 clear t1 t2
 have E:=Lib.hid (E.out.trans (lineT_ask (p:=p) (s:=s) (r:=r) (i:=ti) A1.out))
 have QP:=Lib.hid (ref4_ParseO s w1 (by omega))
 generalize parseQ s=pq at E QP
 obtain ⟨⟨k,⟨x1,x2⟩,⟨x3,x4⟩,us⟩,at0,y0⟩:=pq
 dsimp only at E QP
 go_wp2_with fail
 refine QP.out.mono ?_
 rintro e w2 ⟨v,rfl,hos,hb2⟩
 dsimp only at hos ⊢
 obtain ⟨vo,vc,rfl⟩:=own_form hos
 have HZW:=Lib.hid (show w.heap.size+1 < w1.heap.size from HT.out.b.2.2)
 have HT2:=Lib.hid (HT.out.later hb2)
 have hbc:=((Below.refl w2.heap.size w2).alloc (Nat.le_refl _) (.cells #[.int .i64 k,.string x1,.string x2,.string x3,.string x4,.slice vo us.length vc] 83))
 have HX3:=Lib.hid (show Blk (w2.alloc (.cells #[.int .i64 k,.string x1,.string x2,.string x3,.string x4,.slice vo us.length vc] 83)) w2.heap.size #[.int .i64 k,.string x1,.string x2,.string x3,.string x4,.slice vo us.length vc] from (Blk.new w2 #[.int .i64 k,.string x1,.string x2,.string x3,.string x4,.slice vo us.length vc] 83).congr rfl)
 have HOW:=Lib.hid (own_below hos hbc)
 have HT3:=Lib.hid (HT2.out.later hbc)
 have HB3:=Lib.hid HT3.out.low
 have HP3:=Lib.hid (HPD.out.below HB3.out)
 have HLN:=Lib.hid HL3.out
 clear hb2 hbc QP HT HT2 hos
 go_wp2_with fail
 obtain ⟨W3,hW3⟩:∃ X,X=(w2.alloc (.cells #[.int .i64 k,.string x1,.string x2,.string x3,.string x4,.slice vo us.length vc] 83)):=⟨_,rfl⟩
 rw [← hW3] at HX3 HT3 HB3 HP3 HOW ⊢
 clear hW3
 refine wp_region_last (S:=fun W=>(∀ o,W.cell? ⟨w.heap.size,o,none⟩=(#[.slice a0 p.l.length c0,.slice a1 p.g.length c1,.slice a2 p.h.length c2,.slice a3 zs.length c3]:Array Value)[o]?)∧(∀ o,W.cell? ⟨w2.heap.size,o,none⟩=(#[.int .i64 k,.string x1,.string x2,.string x3,.string x4,.slice vo us.length vc]:Array Value)[o]?)) 8 (by kernel_rfl) ⟨(HT3.out.drew).a.1,(HX3.out.below (below_drew (Below.refl _ _))).1⟩ (fun hHeld=>?_)
 have hd:=below_drew (Below.refl W3.heap.size W3)
 have HS0:=Lib.hid (HT3.out.later hd).a
 have HS1:=Lib.hid (HX3.out.below hd)
 have HRW:=Lib.hid (HP3.out.rq.below hd)
 have HTZ:=Lib.hid (HT3.out.later hd)
 have HBZ:=Lib.hid (HB3.out.trans (hd.mono HB3.out.size))
 have HPZ:=Lib.hid (HP3.out.below hd)
 have HOWZ:=Lib.hid (own_below HOW.out hd)
 obtain ⟨WZ,hWZ⟩:∃ X,X=W3.drew:=⟨_,rfl⟩
 rw [← hWZ] at HS0 HS1 HRW HTZ HBZ HPZ HOWZ hHeld ⊢
 clear hd hWZ HT3 HX3 HB3 HP3 HOW
 have HZ:=Lib.hid (Below.refl WZ.heap.size WZ)
 obtain ⟨inf,hin,hs0,hs1,hs2⟩:=info_parts qy_infoP
 have HIN:=Lib.hid hin
 clear hin
 (refine lyes 1 ?_);(refine lyes 2 ?_);(refine lyes 4 ?_);(try simp only [Act.put,List.setIfInBounds_toArray,List.set])
 refine last_two 0 5 rfl rfl (by kernel_rfl) (fun K hK=>?_) (fun K hK=>?_)
 ·go_simp
  obtain ⟨V1,hV1⟩:∃ X,X=WZ.alloc (.cells #[] 83):=⟨_,rfl⟩
  rw [← hV1]
  have hbq:Below WZ.heap.size WZ V1:=by rw [hV1];exact (Below.refl _ _).alloc (Nat.le_refl _) _
  have HZ:=Lib.hid (HZ.out.trans (hbq.mono HZ.out.size))
  have HR:=Lib.hid (show V1.ownsRow WZ.heap.size 83 6 (.slice (some ⟨WZ.heap.size,0,none⟩) 0 0) 0 [] by rw [hV1];exact World.ownsRow_made WZ #[] 0 (Nat.le_refl _) (Nat.zero_le _) (by simp))
  clear hbq hV1
  (refine hK.out _ _ ⟨(HS0.out.below HZ.out).1,(HS1.out.below HZ.out).1⟩ (fun hHeld=>?_);clear hK K;(try simp only [Act.put,List.setIfInBounds_toArray,List.set]))
  refine last_two 3 5 rfl rfl (by kernel_rfl) (fun K hK=>?_) (fun K hK=>?_)
  ·refine step_row rfl _ _ 24 rfl WZ.heap.size 83 inf _ 6 96 Tryz.underlying24 HIN.out hs0 hs1 hs2 (by decide) rfl (by decide) _ 0 _ rfl HR.out _ zs.length _ rfl (HRW.out.below HZ.out) HPZ.out.one (by have:=HLN.out;omega) HZ.out.size ?_
   intro a3' c3' V2 hown3 hg3
   simp only [Nat.zero_add,List.nil_append] at hown3 ⊢
   have HZ:=Lib.hid (below_own HZ.out HR.out hg3 HZ.out.size (Nat.le_refl _))
   have HR:=Lib.hid hown3
   clear hown3 hg3
   (refine hK.out _ _ ⟨(HS0.out.below HZ.out).1,(HS1.out.below HZ.out).1⟩ (fun hHeld=>?_);clear hK K;(try simp only [Act.put,List.setIfInBounds_toArray,List.set]))
   (refine last_call 5 rfl (by kernel_rfl) (fun K hK=>?_);go_simp)
   have HT:Hid (RowsTwo WZ _ _ _ _ _ _ _ _ (V2.alloc (.cells #[.int .i64 k,.string x1,.string x2,.string x3,.string x4,.slice vo us.length vc] 83))):=Lib.hid (RowsTwo.one (cs:=(qz (⟨k,⟨x1,x2⟩,⟨x3,x4⟩,us⟩,.slice vo us.length vc)).cells) (m:=1) HZ.out HR.out rfl (by decide))
   obtain ⟨V3,hV3⟩:∃ X,X=V2.alloc (.cells #[.int .i64 k,.string x1,.string x2,.string x3,.string x4,.slice vo us.length vc] 83):=⟨_,rfl⟩
   rw [← hV3]
   have hbq:Below V2.heap.size V2 V3:=by rw [hV3];exact (Below.refl _ _).alloc (Nat.le_refl _) _
   have HZ:=Lib.hid (HZ.out.trans (hbq.mono HZ.out.size))
   rw [← hV3] at HT
   clear hbq hV3 HR
   (refine hK.out _ _ ⟨(HS0.out.below HZ.out).1,(HS1.out.below HZ.out).1⟩ (fun hHeld=>?_);clear hK K;(try simp only [Act.put,List.setIfInBounds_toArray,List.set]))
   refine last_call 6 rfl (by kernel_rfl) (fun K hK=>?_)
   refine step_rowE rfl _ _ 24 rfl WZ.heap.size 83 inf _ 6 96 Tryz.underlying24 HIN.out hs0 hs1 hs2 (by decide) rfl (by decide) _ (zs.length) _ rfl HT.out.o1 _ 1 _ rfl (Sl.of_own HT.out.o2).a (qv_one (qz (⟨k,⟨x1,x2⟩,⟨x3,x4⟩,us⟩,.slice vo us.length vc)) ⟨vo,us.length,vc,rfl⟩) (by have:=HLN.out;omega) HT.out.low.size ?_
   intro a6 c6 V6 hown6 hg6 hne6
   have HZ:=Lib.hid (below_own HT.out.low HT.out.o1 hg6 HT.out.low.size (Nat.le_refl _))
   have HO6:=Lib.hid hown6
   clear hg6 hne6 hown6 HT
   (refine hK.out _ _ ⟨(HS0.out.below HZ.out).1,(HS1.out.below HZ.out).1⟩ (fun hHeld=>?_);clear hK K;(try simp only [Act.put,List.setIfInBounds_toArray,List.set]))
   (refine lyes 7 ?_);(try simp only [Act.put,List.setIfInBounds_toArray,List.set])
   obtain ⟨cg,fg,zg⟩:=HS0.out.below HZ.out
   (refine last_end 8 rfl (by kernel_rfl) (by kernel_rfl) (fun K hK=>?_);go_simp)
   clear cg fg zg
   have HBV:=Lib.hid (HBZ.out.trans (HZ.out.mono HBZ.out.size))
   have HTF:=Lib.hid (HTZ.out.later HZ.out)
   have ha0:=Lib.hid (HTF.out.a.put (o:=3) (v:=(.slice a6 (zs.length+1) c6)) (by simp))
   have hb0:=Lib.hid (HTF.out.b.setOther (g':=w.heap.size) (o:=3) (.slice a6 (zs.length+1) c6) (by omega))
   have HBF:=Lib.hid (HBV.out.setCell (p:=⟨w.heap.size,3,none⟩) (Nat.le_refl _) (.slice a6 (zs.length+1) c6))
   have HZ1:=Lib.hid (show w.heap.size+1 < WZ.heap.size from HTZ.out.b.2.2)
   have HNF:=Lib.hid (own_low (g:=w.heap.size) (o:=3) (x:=(.slice a6 (zs.length+1) c6)) HO6.out (by have:=HZ1.out;omega))
   have HWF:=Lib.hid (own_low (g:=w.heap.size) (o:=3) (x:=(.slice a6 (zs.length+1) c6)) (own_below HOWZ.out HZ.out) (by have:=HZW.out;omega))
   clear HO6 HOWZ
   clear HBV HTF HTZ HBZ HPZ HZ HS0 HS1 HRW
   refine hK.out _ _ ?_
   clear hK K
   obtain ⟨wd,hwd2⟩:∃ X,X=V6.setCell ⟨w.heap.size,3,none⟩ (.slice a6 (zs.length+1) c6):=⟨_,rfl⟩
   rw [← hwd2] at ha0 hb0 HBF HNF HWF ⊢
   clear hwd2
   obtain ⟨ca,fa,za⟩:=ha0.out
   obtain ⟨cb,fb,zb⟩:=hb0.out
   go_wp2
   refine bodyPost_ret (v:=.tuple #[pv (.slice a0 p.l.length c0) (.slice a1 p.g.length c1) (.slice a2 p.h.length c2) (.slice a6 (zs.length+1) c6),.int .i64 at0,.int .i64 y0]) (by simp [results,Tryz.results70,go_sem,cb]) rfl ?_
   refine ⟨_,_,_,_,zs++[(⟨k,⟨x1,x2⟩,⟨x3,x4⟩,us⟩,.slice vo us.length vc)],by rw [E.out],⟨⟨_,_,_,rfl⟩,⟨_,_,_,rfl⟩,⟨_,_,_,rfl⟩,⟨_,_,_,rfl⟩⟩,fun _=>?_,below_puts (g:=w.heap.size+1) (by omega) [(.slice a0 p.l.length c0),(.slice a1 p.g.length c1),(.slice a2 p.h.length c2),(.slice a6 (zs.length+1) c6)] 0 wd HBF.out⟩
   rw [E.out]
   exact (HPD.out.below (below_puts (g:=w.heap.size+1) (by omega) [(.slice a0 p.l.length c0),(.slice a1 p.g.length c1),(.slice a2 p.h.length c2),(.slice a6 (zs.length+1) c6)] 0 wd HBF.out)).ask (q:=⟨k,⟨x1,x2⟩,⟨x3,x4⟩,us⟩) (Sl.of_own (own_lows (g:=w.heap.size+1) HZ1.out [(.slice a0 p.l.length c0),(.slice a1 p.g.length c1),(.slice a2 p.h.length c2),(.slice a6 (zs.length+1) c6)] 0 wd HNF.out)).a (by omega) (by simp) (Sl.of_own (own_lows (g:=w.heap.size+1) HZW.out [(.slice a0 p.l.length c0),(.slice a1 p.g.length c1),(.slice a2 p.h.length c2),(.slice a6 (zs.length+1) c6)] 0 wd HWF.out)).a
  ·go_simp
   have HT:Hid (RowsTwo WZ _ _ _ _ _ _ _ _ (V1.alloc (.cells #[.int .i64 k,.string x1,.string x2,.string x3,.string x4,.slice vo us.length vc] 83))):=Lib.hid (RowsTwo.one (cs:=(qz (⟨k,⟨x1,x2⟩,⟨x3,x4⟩,us⟩,.slice vo us.length vc)).cells) (m:=1) HZ.out HR.out rfl (by decide))
   obtain ⟨V2,hV2⟩:∃ X,X=V1.alloc (.cells #[.int .i64 k,.string x1,.string x2,.string x3,.string x4,.slice vo us.length vc] 83):=⟨_,rfl⟩
   rw [← hV2]
   have hbq:Below V1.heap.size V1 V2:=by rw [hV2];exact (Below.refl _ _).alloc (Nat.le_refl _) _
   have HZ:=Lib.hid (HZ.out.trans (hbq.mono HZ.out.size))
   rw [← hV2] at HT
   clear hbq hV2 HR
   (refine hK.out _ _ ⟨(HS0.out.below HZ.out).1,(HS1.out.below HZ.out).1⟩ (fun hHeld=>?_);clear hK K;(try simp only [Act.put,List.setIfInBounds_toArray,List.set]))
   refine last_call 3 rfl (by kernel_rfl) (fun K hK=>?_)
   refine step_rowE rfl _ _ 24 rfl WZ.heap.size 83 inf _ 6 96 Tryz.underlying24 HIN.out hs0 hs1 hs2 (by decide) rfl (by decide) _ 0 _ rfl HT.out.o1 _ zs.length _ rfl (HRW.out.below HZ.out) HPZ.out.one (by have:=HLN.out;omega) HZ.out.size ?_
   intro a3' c3' V3 hown3 hg3 hne3
   simp only [Nat.zero_add,List.nil_append] at hown3 hne3 ⊢
   have HT:=Lib.hid (HT.out.grow1 hown3 hg3 hne3)
   have HZ:=Lib.hid HT.out.low
   clear hown3 hg3 hne3
   (refine hK.out _ _ ⟨(HS0.out.below HZ.out).1,(HS1.out.below HZ.out).1⟩ (fun hHeld=>?_);clear hK K;(try simp only [Act.put,List.setIfInBounds_toArray,List.set]))
   refine last_call 6 rfl (by kernel_rfl) (fun K hK=>?_)
   refine step_rowE rfl _ _ 24 rfl WZ.heap.size 83 inf _ 6 96 Tryz.underlying24 HIN.out hs0 hs1 hs2 (by decide) rfl (by decide) _ (zs.length) _ rfl HT.out.o1 _ 1 _ rfl (Sl.of_own HT.out.o2).a (qv_one (qz (⟨k,⟨x1,x2⟩,⟨x3,x4⟩,us⟩,.slice vo us.length vc)) ⟨vo,us.length,vc,rfl⟩) (by have:=HLN.out;omega) HT.out.low.size ?_
   intro a6 c6 V6 hown6 hg6 hne6
   have HZ:=Lib.hid (below_own HT.out.low HT.out.o1 hg6 HT.out.low.size (Nat.le_refl _))
   have HO6:=Lib.hid hown6
   clear hg6 hne6 hown6 HT
   (refine hK.out _ _ ⟨(HS0.out.below HZ.out).1,(HS1.out.below HZ.out).1⟩ (fun hHeld=>?_);clear hK K;(try simp only [Act.put,List.setIfInBounds_toArray,List.set]))
   (refine lyes 7 ?_);(try simp only [Act.put,List.setIfInBounds_toArray,List.set])
   obtain ⟨cg,fg,zg⟩:=HS0.out.below HZ.out
   (refine last_end 8 rfl (by kernel_rfl) (by kernel_rfl) (fun K hK=>?_);go_simp)
   clear cg fg zg
   have HBV:=Lib.hid (HBZ.out.trans (HZ.out.mono HBZ.out.size))
   have HTF:=Lib.hid (HTZ.out.later HZ.out)
   have ha0:=Lib.hid (HTF.out.a.put (o:=3) (v:=(.slice a6 (zs.length+1) c6)) (by simp))
   have hb0:=Lib.hid (HTF.out.b.setOther (g':=w.heap.size) (o:=3) (.slice a6 (zs.length+1) c6) (by omega))
   have HBF:=Lib.hid (HBV.out.setCell (p:=⟨w.heap.size,3,none⟩) (Nat.le_refl _) (.slice a6 (zs.length+1) c6))
   have HZ1:=Lib.hid (show w.heap.size+1 < WZ.heap.size from HTZ.out.b.2.2)
   have HNF:=Lib.hid (own_low (g:=w.heap.size) (o:=3) (x:=(.slice a6 (zs.length+1) c6)) HO6.out (by have:=HZ1.out;omega))
   have HWF:=Lib.hid (own_low (g:=w.heap.size) (o:=3) (x:=(.slice a6 (zs.length+1) c6)) (own_below HOWZ.out HZ.out) (by have:=HZW.out;omega))
   clear HO6 HOWZ
   clear HBV HTF HTZ HBZ HPZ HZ HS0 HS1 HRW
   refine hK.out _ _ ?_
   clear hK K
   obtain ⟨wd,hwd2⟩:∃ X,X=V6.setCell ⟨w.heap.size,3,none⟩ (.slice a6 (zs.length+1) c6):=⟨_,rfl⟩
   rw [← hwd2] at ha0 hb0 HBF HNF HWF ⊢
   clear hwd2
   obtain ⟨ca,fa,za⟩:=ha0.out
   obtain ⟨cb,fb,zb⟩:=hb0.out
   go_wp2
   refine bodyPost_ret (v:=.tuple #[pv (.slice a0 p.l.length c0) (.slice a1 p.g.length c1) (.slice a2 p.h.length c2) (.slice a6 (zs.length+1) c6),.int .i64 at0,.int .i64 y0]) (by simp [results,Tryz.results70,go_sem,cb]) rfl ?_
   refine ⟨_,_,_,_,zs++[(⟨k,⟨x1,x2⟩,⟨x3,x4⟩,us⟩,.slice vo us.length vc)],by rw [E.out],⟨⟨_,_,_,rfl⟩,⟨_,_,_,rfl⟩,⟨_,_,_,rfl⟩,⟨_,_,_,rfl⟩⟩,fun _=>?_,below_puts (g:=w.heap.size+1) (by omega) [(.slice a0 p.l.length c0),(.slice a1 p.g.length c1),(.slice a2 p.h.length c2),(.slice a6 (zs.length+1) c6)] 0 wd HBF.out⟩
   rw [E.out]
   exact (HPD.out.below (below_puts (g:=w.heap.size+1) (by omega) [(.slice a0 p.l.length c0),(.slice a1 p.g.length c1),(.slice a2 p.h.length c2),(.slice a6 (zs.length+1) c6)] 0 wd HBF.out)).ask (q:=⟨k,⟨x1,x2⟩,⟨x3,x4⟩,us⟩) (Sl.of_own (own_lows (g:=w.heap.size+1) HZ1.out [(.slice a0 p.l.length c0),(.slice a1 p.g.length c1),(.slice a2 p.h.length c2),(.slice a6 (zs.length+1) c6)] 0 wd HNF.out)).a (by omega) (by simp) (Sl.of_own (own_lows (g:=w.heap.size+1) HZW.out [(.slice a0 p.l.length c0),(.slice a1 p.g.length c1),(.slice a2 p.h.length c2),(.slice a6 (zs.length+1) c6)] 0 wd HWF.out)).a
 ·go_simp
  have HO:Hid ((WZ.alloc (.cells #[.int .i64 k,.string x1,.string x2,.string x3,.string x4,.slice vo us.length vc] 83)).ownsRow WZ.heap.size _ _ _ _ _):=Lib.hid (own_alloc1 (w0:=WZ) (w:=WZ) (e:=83) (size:=6) (m:=1) (cs:=(qz (⟨k,⟨x1,x2⟩,⟨x3,x4⟩,us⟩,.slice vo us.length vc)).cells) (Nat.le_refl _) rfl (by decide))
  obtain ⟨V1,hV1⟩:∃ X,X=WZ.alloc (.cells #[.int .i64 k,.string x1,.string x2,.string x3,.string x4,.slice vo us.length vc] 83):=⟨_,rfl⟩
  rw [← hV1]
  have hbq:Below WZ.heap.size WZ V1:=by rw [hV1];exact (Below.refl _ _).alloc (Nat.le_refl _) _
  have HZ:=Lib.hid (HZ.out.trans (hbq.mono HZ.out.size))
  rw [← hV1] at HO
  clear hbq hV1
  (refine hK.out _ _ ⟨(HS0.out.below HZ.out).1,(HS1.out.below HZ.out).1⟩ (fun hHeld=>?_);clear hK K;(try simp only [Act.put,List.setIfInBounds_toArray,List.set]))
  (refine last_call 0 rfl (by kernel_rfl) (fun K hK=>?_);go_simp)
  have HT:=Lib.hid (RowsTwo.new HZ.out HO.out).swap
  obtain ⟨V2,hV2⟩:∃ X,X=V1.alloc (.cells #[] 83):=⟨_,rfl⟩
  rw [← hV2]
  have hbq:Below V1.heap.size V1 V2:=by rw [hV2];exact (Below.refl _ _).alloc (Nat.le_refl _) _
  have HZ:=Lib.hid (HZ.out.trans (hbq.mono HZ.out.size))
  rw [← hV2] at HT
  clear hbq hV2 HO
  (refine hK.out _ _ ⟨(HS0.out.below HZ.out).1,(HS1.out.below HZ.out).1⟩ (fun hHeld=>?_);clear hK K;(try simp only [Act.put,List.setIfInBounds_toArray,List.set]))
  refine last_call 3 rfl (by kernel_rfl) (fun K hK=>?_)
  refine step_rowE rfl _ _ 24 rfl WZ.heap.size 83 inf _ 6 96 Tryz.underlying24 HIN.out hs0 hs1 hs2 (by decide) rfl (by decide) _ 0 _ rfl HT.out.o1 _ zs.length _ rfl (HRW.out.below HZ.out) HPZ.out.one (by have:=HLN.out;omega) HZ.out.size ?_
  intro a3' c3' V3 hown3 hg3 hne3
  simp only [Nat.zero_add,List.nil_append] at hown3 hne3 ⊢
  have HT:=Lib.hid (HT.out.grow1 hown3 hg3 hne3)
  have HZ:=Lib.hid HT.out.low
  clear hown3 hg3 hne3
  (refine hK.out _ _ ⟨(HS0.out.below HZ.out).1,(HS1.out.below HZ.out).1⟩ (fun hHeld=>?_);clear hK K;(try simp only [Act.put,List.setIfInBounds_toArray,List.set]))

  refine last_call 6 rfl (by kernel_rfl) (fun K hK=>?_)
  refine step_rowE rfl _ _ 24 rfl WZ.heap.size 83 inf _ 6 96 Tryz.underlying24 HIN.out hs0 hs1 hs2 (by decide) rfl (by decide) _ (zs.length) _ rfl HT.out.o1 _ 1 _ rfl (Sl.of_own HT.out.o2).a (qv_one (qz (⟨k,⟨x1,x2⟩,⟨x3,x4⟩,us⟩,.slice vo us.length vc)) ⟨vo,us.length,vc,rfl⟩) (by have:=HLN.out;omega) HT.out.low.size ?_
  intro a6 c6 V6 hown6 hg6 hne6
  have HZ:=Lib.hid (below_own HT.out.low HT.out.o1 hg6 HT.out.low.size (Nat.le_refl _))
  have HO6:=Lib.hid hown6
  clear hg6 hne6 hown6 HT
  (refine hK.out _ _ ⟨(HS0.out.below HZ.out).1,(HS1.out.below HZ.out).1⟩ (fun hHeld=>?_);clear hK K;(try simp only [Act.put,List.setIfInBounds_toArray,List.set]))
  (refine lyes 7 ?_);(try simp only [Act.put,List.setIfInBounds_toArray,List.set])
  obtain ⟨cg,fg,zg⟩:=HS0.out.below HZ.out
  (refine last_end 8 rfl (by kernel_rfl) (by kernel_rfl) (fun K hK=>?_);go_simp)
  clear cg fg zg
  have HBV:=Lib.hid (HBZ.out.trans (HZ.out.mono HBZ.out.size))
  have HTF:=Lib.hid (HTZ.out.later HZ.out)
  have ha0:=Lib.hid (HTF.out.a.put (o:=3) (v:=(.slice a6 (zs.length+1) c6)) (by simp))
  have hb0:=Lib.hid (HTF.out.b.setOther (g':=w.heap.size) (o:=3) (.slice a6 (zs.length+1) c6) (by omega))
  have HBF:=Lib.hid (HBV.out.setCell (p:=⟨w.heap.size,3,none⟩) (Nat.le_refl _) (.slice a6 (zs.length+1) c6))
  have HZ1:=Lib.hid (show w.heap.size+1 < WZ.heap.size from HTZ.out.b.2.2)
  have HNF:=Lib.hid (own_low (g:=w.heap.size) (o:=3) (x:=(.slice a6 (zs.length+1) c6)) HO6.out (by have:=HZ1.out;omega))
  have HWF:=Lib.hid (own_low (g:=w.heap.size) (o:=3) (x:=(.slice a6 (zs.length+1) c6)) (own_below HOWZ.out HZ.out) (by have:=HZW.out;omega))
  clear HO6 HOWZ
  clear HBV HTF HTZ HBZ HPZ HZ HS0 HS1 HRW
  refine hK.out _ _ ?_
  clear hK K
  obtain ⟨wd,hwd2⟩:∃ X,X=V6.setCell ⟨w.heap.size,3,none⟩ (.slice a6 (zs.length+1) c6):=⟨_,rfl⟩
  rw [← hwd2] at ha0 hb0 HBF HNF HWF ⊢
  clear hwd2
  obtain ⟨ca,fa,za⟩:=ha0.out
  obtain ⟨cb,fb,zb⟩:=hb0.out
  go_wp2
  refine bodyPost_ret (v:=.tuple #[pv (.slice a0 p.l.length c0) (.slice a1 p.g.length c1) (.slice a2 p.h.length c2) (.slice a6 (zs.length+1) c6),.int .i64 at0,.int .i64 y0]) (by simp [results,Tryz.results70,go_sem,cb]) rfl ?_
  refine ⟨_,_,_,_,zs++[(⟨k,⟨x1,x2⟩,⟨x3,x4⟩,us⟩,.slice vo us.length vc)],by rw [E.out],⟨⟨_,_,_,rfl⟩,⟨_,_,_,rfl⟩,⟨_,_,_,rfl⟩,⟨_,_,_,rfl⟩⟩,fun _=>?_,below_puts (g:=w.heap.size+1) (by omega) [(.slice a0 p.l.length c0),(.slice a1 p.g.length c1),(.slice a2 p.h.length c2),(.slice a6 (zs.length+1) c6)] 0 wd HBF.out⟩
  rw [E.out]
  exact (HPD.out.below (below_puts (g:=w.heap.size+1) (by omega) [(.slice a0 p.l.length c0),(.slice a1 p.g.length c1),(.slice a2 p.h.length c2),(.slice a6 (zs.length+1) c6)] 0 wd HBF.out)).ask (q:=⟨k,⟨x1,x2⟩,⟨x3,x4⟩,us⟩) (Sl.of_own (own_lows (g:=w.heap.size+1) HZ1.out [(.slice a0 p.l.length c0),(.slice a1 p.g.length c1),(.slice a2 p.h.length c2),(.slice a6 (zs.length+1) c6)] 0 wd HNF.out)).a (by omega) (by simp) (Sl.of_own (own_lows (g:=w.heap.size+1) HZW.out [(.slice a0 p.l.length c0),(.slice a1 p.g.length c1),(.slice a2 p.h.length c2),(.slice a6 (zs.length+1) c6)] 0 wd HWF.out)).a
end
section
open Go.RowKit Go.Shelf

set_option maxRecDepth 100000 in
set_option maxHeartbeats 2000000 in
theorem ref5_line_stmt (s:ByteArray) (v0 v1 v2 v3:Value) (p:Pd) (zs:List (Qd × Value)) (w:World) (hp:PolD w v0 v1 v2 v3 p zs) (hs:s.size≤1000000) (hl0:p.l.length≤100) (hl1:p.g.length≤100) (hl2:p.h.length≤100) (hl3:p.q.length≤100) (x:Tok) (r:List Tok) (ti:Int) (ht:tokens (bl s)=(x :: r,ti,0)) (t1:¬ (x.tx=wAlways∨x.tx=wCan)) (t3:¬ x.tx=wGrow) (t4:¬ x.tx=wShrink) :
  Calls Tryz.prog 70 #[pv v0 v1 v2 v3,.string s] w fun e w'=>LineR (lineP p s) w e w':=by
 have HL0:=Lib.hid hl0
 have HL1:=Lib.hid hl1
 have HL2:=Lib.hid hl2
 have HL3:=Lib.hid (show zs.length≤100 by rw [← hp.z,List.length_map] at hl3;exact hl3)
 have HPD:=Lib.hid hp
 obtain ⟨a0,c0,rfl⟩:=hp.rs.form
 obtain ⟨a1,c1,rfl⟩:=hp.rg.form
 obtain ⟨a2,c2,rfl⟩:=hp.rh.form
 obtain ⟨a3,c3,rfl⟩:=hp.rq.form
 have HT:=Lib.hid (TwoAt.new w #[.slice a0 p.l.length c0,.slice a1 p.g.length c1,.slice a2 p.h.length c2,.slice a3 zs.length c3] #[nilV,nilV,nilV,nilV] 26 26)
 have TK:=Lib.hid (fun W=>ref2_Tokens_any s W (by omega))
 have E:=Lib.hid (show lineP p s=lineT p s (tokens (bl s)) from rfl)
 generalize lineP p s=res at E ⊢
 clear hp hl0 hl1 hl2 hl3
 have hto:=tokens_ok (bl s)
 rw [ht] at E TK hto
 clear ht
 dsimp only at hto
 go_enter Tryz.func70,Tryz.ntmps70
 go_wp2_with fail
 refine (TK.out _).mono ?_
 rintro e w1 ⟨va,rfl,hown1,hb1⟩
 dsimp only at hown1
 obtain ⟨sa,sc,rfl⟩:=own_form hown1
 have HS1:=Lib.hid (Sl.of_own hown1)
 have HT:=Lib.hid (HT.out.later hb1)
 clear hown1 hb1 TK
 have dl:((((r.length:Int)+1) == 0))=false:=by rw [beq_eq_false_iff_ne];omega
 obtain ⟨tb,off,cap,he1,hc1,hm1,hb1,hx1⟩:=HS1.out.pos (by simp)
 simp only [Value.slice.injEq] at he1
 obtain ⟨rfl,_,rfl⟩:=he1
 obtain ⟨p0,p1,p2⟩:=tk_head hx1
 have TX:=Lib.hid (show (⟨x.text.toArray⟩:ByteArray)=x.tx from rfl)
 rw [TX.out] at p1
 clear hx1 TX
 have e1:(x.tx.toList == [97,108,119,97,121,115])=false:=tx_ne (fun h=>t1 (.inl h))
 have e2:(x.tx.toList == [99,97,110])=false:=tx_ne (fun h=>t1 (.inr h))
 have e3:(x.tx.toList == [103,114,111,119])=false:=tx_ne t3
 have e3n:(x.tx.toList != [103,114,111,119])=true:=tx_nt t3
 have e4:(x.tx.toList == [115,104,114,105,110,107])=false:=tx_ne t4
 have e4n:(x.tx.toList != [115,104,114,105,110,107])=true:=tx_nt t4
 have A1:=Lib.hid t1
 have A3:=Lib.hid t3
 have A4:=Lib.hid t4
 clear t1 t3 t4
 have E:=Lib.hid (E.out.trans (lineT_stmt (p:=p) (s:=s) (r:=r) (i:=ti) A1.out A3.out A4.out))
 have QP:=Lib.hid (ref3_Parse s w1 (by omega))
 generalize parseS s=pq at E QP
 obtain ⟨⟨k,⟨x1,x2⟩,x3,⟨x4,x5⟩,⟨x6,x7⟩,x8⟩,at0,y0⟩:=pq
 dsimp only at E QP
 obtain ⟨LN,hLN⟩:∃ X,X=insAll [] (p.l++[⟨k,⟨x1,x2⟩,x3,⟨x4,x5⟩,⟨x6,x7⟩,x8⟩]):=⟨_,rfl⟩
 rw [← hLN] at E
 have HNW:=Lib.hid hLN
 clear hLN
 go_wp2_with fail
 refine QP.out.mono ?_
 rintro e w2 ⟨rfl,hb2⟩
 dsimp only
 have HT2:=Lib.hid (HT.out.later hb2)
 have hbc:=((Below.refl w2.heap.size w2).alloc (Nat.le_refl _) (.cells #[.int .i64 k,.string x1,.string x2,.string x3,.string x4,.string x5,.string x6,.string x7,.string x8] 80))
 have HX3:=Lib.hid (show Blk (w2.alloc (.cells #[.int .i64 k,.string x1,.string x2,.string x3,.string x4,.string x5,.string x6,.string x7,.string x8] 80)) w2.heap.size #[.int .i64 k,.string x1,.string x2,.string x3,.string x4,.string x5,.string x6,.string x7,.string x8] from (Blk.new w2 #[.int .i64 k,.string x1,.string x2,.string x3,.string x4,.string x5,.string x6,.string x7,.string x8] 80).congr rfl)

 have HT3:=Lib.hid (HT2.out.later hbc)
 have HB3:=Lib.hid HT3.out.low
 have HP3:=Lib.hid (HPD.out.below HB3.out)
 have HLN:=Lib.hid HL0.out
 clear hb2 hbc QP HT HT2
 go_wp2_with fail
 obtain ⟨W3,hW3⟩:∃ X,X=(w2.alloc (.cells #[.int .i64 k,.string x1,.string x2,.string x3,.string x4,.string x5,.string x6,.string x7,.string x8] 80)):=⟨_,rfl⟩
 rw [← hW3] at HX3 HT3 HB3 HP3 ⊢
 clear hW3
 refine wp_region_last (S:=fun W=>(∀ o,W.cell? ⟨w.heap.size,o,none⟩=(#[.slice a0 p.l.length c0,.slice a1 p.g.length c1,.slice a2 p.h.length c2,.slice a3 zs.length c3]:Array Value)[o]?)∧(∀ o,W.cell? ⟨w2.heap.size,o,none⟩=(#[.int .i64 k,.string x1,.string x2,.string x3,.string x4,.string x5,.string x6,.string x7,.string x8]:Array Value)[o]?)) 9 (by kernel_rfl) ⟨(HT3.out.drew).a.1,(HX3.out.below (below_drew (Below.refl _ _))).1⟩ (fun hHeld=>?_)
 have hd:=below_drew (Below.refl W3.heap.size W3)
 have HS0:=Lib.hid (HT3.out.later hd).a
 have HS1:=Lib.hid (HX3.out.below hd)
 have HRW:=Lib.hid (HP3.out.rs.below hd)
 have HTZ:=Lib.hid (HT3.out.later hd)
 have HBZ:=Lib.hid (HB3.out.trans (hd.mono HB3.out.size))
 have HPZ:=Lib.hid (HP3.out.below hd)

 obtain ⟨WZ,hWZ⟩:∃ X,X=W3.drew:=⟨_,rfl⟩
 rw [← hWZ] at HS0 HS1 HRW HTZ HBZ HPZ hHeld ⊢
 clear hd hWZ HT3 HX3 HB3 HP3
 have HZ:=Lib.hid (Below.refl WZ.heap.size WZ)
 obtain ⟨inf,hin,hs0,hs1,hs2⟩:=info_parts st_info
 have HIN:=Lib.hid hin
 clear hin
 (refine lyes 1 ?_);(refine lyes 2 ?_);(refine lyes 4 ?_);(try simp only [Act.put,List.setIfInBounds_toArray,List.set])
 refine last_two 0 5 rfl rfl (by kernel_rfl) (fun K hK=>?_) (fun K hK=>?_)
 ·go_simp
  obtain ⟨V1,hV1⟩:∃ X,X=WZ.alloc (.cells #[] 80):=⟨_,rfl⟩
  rw [← hV1]
  have hbq:Below WZ.heap.size WZ V1:=by rw [hV1];exact (Below.refl _ _).alloc (Nat.le_refl _) _
  have HZ:=Lib.hid (HZ.out.trans (hbq.mono HZ.out.size))
  have HR:=Lib.hid (show V1.ownsRow WZ.heap.size 80 9 (.slice (some ⟨WZ.heap.size,0,none⟩) 0 0) 0 [] by rw [hV1];exact World.ownsRow_made WZ #[] 0 (Nat.le_refl _) (Nat.zero_le _) (by simp))
  clear hbq hV1
  (refine hK.out _ _ ⟨(HS0.out.below HZ.out).1,(HS1.out.below HZ.out).1⟩ (fun hHeld=>?_);clear hK K;(try simp only [Act.put,List.setIfInBounds_toArray,List.set]))
  refine last_two 3 5 rfl rfl (by kernel_rfl) (fun K hK=>?_) (fun K hK=>?_)
  ·refine step_row rfl _ _ 22 rfl WZ.heap.size 80 inf _ 9 136 Tryz.underlying22 HIN.out hs0 hs1 hs2 (by decide) rfl (by decide) _ 0 _ rfl HR.out _ p.l.length _ rfl (HRW.out.below HZ.out) (sts_one _) (by have:=HLN.out;omega) HZ.out.size ?_
   intro a3' c3' V2 hown3 hg3
   simp only [Nat.zero_add,List.nil_append] at hown3 ⊢
   have HZ:=Lib.hid (below_own HZ.out HR.out hg3 HZ.out.size (Nat.le_refl _))
   have HR:=Lib.hid hown3
   clear hown3 hg3
   (refine hK.out _ _ ⟨(HS0.out.below HZ.out).1,(HS1.out.below HZ.out).1⟩ (fun hHeld=>?_);clear hK K;(try simp only [Act.put,List.setIfInBounds_toArray,List.set]))
   (refine last_call 5 rfl (by kernel_rfl) (fun K hK=>?_);go_simp)
   have HT:Hid (RowsTwo WZ _ _ _ _ _ _ _ _ (V2.alloc (.cells #[.int .i64 k,.string x1,.string x2,.string x3,.string x4,.string x5,.string x6,.string x7,.string x8] 80))):=Lib.hid (RowsTwo.one (cs:=St.cells ⟨k,⟨x1,x2⟩,x3,⟨x4,x5⟩,⟨x6,x7⟩,x8⟩) (m:=1) HZ.out HR.out rfl (by decide))
   obtain ⟨V3,hV3⟩:∃ X,X=V2.alloc (.cells #[.int .i64 k,.string x1,.string x2,.string x3,.string x4,.string x5,.string x6,.string x7,.string x8] 80):=⟨_,rfl⟩
   rw [← hV3]
   have hbq:Below V2.heap.size V2 V3:=by rw [hV3];exact (Below.refl _ _).alloc (Nat.le_refl _) _
   have HZ:=Lib.hid (HZ.out.trans (hbq.mono HZ.out.size))
   rw [← hV3] at HT
   clear hbq hV3 HR
   (refine hK.out _ _ ⟨(HS0.out.below HZ.out).1,(HS1.out.below HZ.out).1⟩ (fun hHeld=>?_);clear hK K;(try simp only [Act.put,List.setIfInBounds_toArray,List.set]))
   refine last_call 6 rfl (by kernel_rfl) (fun K hK=>?_)
   refine step_rowE rfl _ _ 22 rfl WZ.heap.size 80 inf _ 9 136 Tryz.underlying22 HIN.out hs0 hs1 hs2 (by decide) rfl (by decide) _ (p.l.length) _ rfl HT.out.o1 _ 1 _ rfl (Sl.of_own HT.out.o2).a (st_one _) (by have:=HLN.out;omega) HT.out.low.size ?_
   intro a6 c6 V6 hown6 hg6 hne6
   have HZ:=Lib.hid (below_own HT.out.low HT.out.o1 hg6 HT.out.low.size (Nat.le_refl _))
   have HO6:=Lib.hid hown6
   clear hg6 hne6 hown6 HT
   (refine hK.out _ _ ⟨(HS0.out.below HZ.out).1,(HS1.out.below HZ.out).1⟩ (fun hHeld=>?_);clear hK K;(try simp only [Act.put,List.setIfInBounds_toArray,List.set]))
   (refine last_call 7 rfl (by kernel_rfl) (fun K hK=>?_);go_simp)
   go_at_call 16;refine (ref3_Sort _ (p.l++[⟨k,⟨x1,x2⟩,x3,⟨x4,x5⟩,⟨x6,x7⟩,x8⟩]) _ (by rw [List.length_append,List.flatMap_append];simpa using (Sl.of_own HO6.out).a) (by have:=HLN.out;simp;omega)).mono ?_;rintro e V7 ⟨v7,rfl,hs7,hb7⟩
   rw [← HNW.out] at hs7
   obtain ⟨a7,c7,rfl⟩:=hs7.form
   have HS7:=Lib.hid hs7
   have HZ:=Lib.hid (HZ.out.trans (hb7.mono HZ.out.size))
   clear hs7 hb7 HO6
   (refine hK.out _ _ ⟨(HS0.out.below HZ.out).1,(HS1.out.below HZ.out).1⟩ (fun hHeld=>?_);clear hK K;(try simp only [Act.put,List.setIfInBounds_toArray,List.set]))
   (refine lyes 8 ?_);(try simp only [Act.put,List.setIfInBounds_toArray,List.set])
   obtain ⟨cg,fg,zg⟩:=HS0.out.below HZ.out
   (refine last_end 9 rfl (by kernel_rfl) (by kernel_rfl) (fun K hK=>?_);go_simp)
   clear cg fg zg
   have HBV:=Lib.hid (HBZ.out.trans (HZ.out.mono HBZ.out.size))
   have HTF:=Lib.hid (HTZ.out.later HZ.out)
   have ha0:=Lib.hid (HTF.out.a.put (o:=0) (v:=(.slice a7 LN.length c7)) (by simp))
   have hb0:=Lib.hid (HTF.out.b.setOther (g':=w.heap.size) (o:=0) (.slice a7 LN.length c7) (by omega))
   have HBF:=Lib.hid (HBV.out.setCell (p:=⟨w.heap.size,0,none⟩) (Nat.le_refl _) (.slice a7 LN.length c7))
   have HNF:=Lib.hid (HS7.out.set (o:=0) (x:=(.slice a7 LN.length c7)) (blkS4 HTF.out.a rfl rfl rfl rfl) (st_noSl _))
   have HSB:=Lib.hid (blkS4 hb0.out rfl rfl rfl rfl)
   clear HS7
   clear HBV HTF HTZ HBZ HPZ HZ HS0 HS1 HRW
   refine hK.out _ _ ?_
   clear hK K
   obtain ⟨wd,hwd2⟩:∃ X,X=V7.setCell ⟨w.heap.size,0,none⟩ (.slice a7 LN.length c7):=⟨_,rfl⟩
   rw [← hwd2] at ha0 hb0 HBF HNF HSB ⊢
   clear hwd2
   obtain ⟨ca,fa,za⟩:=ha0.out
   obtain ⟨cb,fb,zb⟩:=hb0.out
   go_wp2
   refine bodyPost_ret (v:=.tuple #[pv (.slice a7 LN.length c7) (.slice a1 p.g.length c1) (.slice a2 p.h.length c2) (.slice a3 zs.length c3),.int .i64 at0,.int .i64 y0]) (by simp [results,Tryz.results70,go_sem,cb]) rfl ?_
   refine ⟨_,_,_,_,zs,by rw [E.out],⟨⟨_,_,_,rfl⟩,⟨_,_,_,rfl⟩,⟨_,_,_,rfl⟩,⟨_,_,_,rfl⟩⟩,fun _=>?_,below_puts (g:=w.heap.size+1) (by omega) [(.slice a7 LN.length c7),(.slice a1 p.g.length c1),(.slice a2 p.h.length c2),(.slice a3 zs.length c3)] 0 wd HBF.out⟩
   rw [E.out]
   exact (HPD.out.below (below_puts (g:=w.heap.size+1) (by omega) [(.slice a7 LN.length c7),(.slice a1 p.g.length c1),(.slice a2 p.h.length c2),(.slice a3 zs.length c3)] 0 wd HBF.out)).l (Sl.puts (st_noSl _) [(.slice a7 LN.length c7),(.slice a1 p.g.length c1),(.slice a2 p.h.length c2),(.slice a3 zs.length c3)] 0 wd HNF.out HSB.out (by simp) (by simp [isSl])).a
  ·go_simp
   have HT:Hid (RowsTwo WZ _ _ _ _ _ _ _ _ (V1.alloc (.cells #[.int .i64 k,.string x1,.string x2,.string x3,.string x4,.string x5,.string x6,.string x7,.string x8] 80))):=Lib.hid (RowsTwo.one (cs:=St.cells ⟨k,⟨x1,x2⟩,x3,⟨x4,x5⟩,⟨x6,x7⟩,x8⟩) (m:=1) HZ.out HR.out rfl (by decide))
   obtain ⟨V2,hV2⟩:∃ X,X=V1.alloc (.cells #[.int .i64 k,.string x1,.string x2,.string x3,.string x4,.string x5,.string x6,.string x7,.string x8] 80):=⟨_,rfl⟩
   rw [← hV2]
   have hbq:Below V1.heap.size V1 V2:=by rw [hV2];exact (Below.refl _ _).alloc (Nat.le_refl _) _
   have HZ:=Lib.hid (HZ.out.trans (hbq.mono HZ.out.size))
   rw [← hV2] at HT
   clear hbq hV2 HR
   (refine hK.out _ _ ⟨(HS0.out.below HZ.out).1,(HS1.out.below HZ.out).1⟩ (fun hHeld=>?_);clear hK K;(try simp only [Act.put,List.setIfInBounds_toArray,List.set]))
   refine last_call 3 rfl (by kernel_rfl) (fun K hK=>?_)
   refine step_rowE rfl _ _ 22 rfl WZ.heap.size 80 inf _ 9 136 Tryz.underlying22 HIN.out hs0 hs1 hs2 (by decide) rfl (by decide) _ 0 _ rfl HT.out.o1 _ p.l.length _ rfl (HRW.out.below HZ.out) (sts_one _) (by have:=HLN.out;omega) HZ.out.size ?_
   intro a3' c3' V3 hown3 hg3 hne3
   simp only [Nat.zero_add,List.nil_append] at hown3 hne3 ⊢
   have HT:=Lib.hid (HT.out.grow1 hown3 hg3 hne3)
   have HZ:=Lib.hid HT.out.low
   clear hown3 hg3 hne3
   (refine hK.out _ _ ⟨(HS0.out.below HZ.out).1,(HS1.out.below HZ.out).1⟩ (fun hHeld=>?_);clear hK K;(try simp only [Act.put,List.setIfInBounds_toArray,List.set]))
   refine last_call 6 rfl (by kernel_rfl) (fun K hK=>?_)
   refine step_rowE rfl _ _ 22 rfl WZ.heap.size 80 inf _ 9 136 Tryz.underlying22 HIN.out hs0 hs1 hs2 (by decide) rfl (by decide) _ (p.l.length) _ rfl HT.out.o1 _ 1 _ rfl (Sl.of_own HT.out.o2).a (st_one _) (by have:=HLN.out;omega) HT.out.low.size ?_
   intro a6 c6 V6 hown6 hg6 hne6
   have HZ:=Lib.hid (below_own HT.out.low HT.out.o1 hg6 HT.out.low.size (Nat.le_refl _))
   have HO6:=Lib.hid hown6
   clear hg6 hne6 hown6 HT
   (refine hK.out _ _ ⟨(HS0.out.below HZ.out).1,(HS1.out.below HZ.out).1⟩ (fun hHeld=>?_);clear hK K;(try simp only [Act.put,List.setIfInBounds_toArray,List.set]))
   (refine last_call 7 rfl (by kernel_rfl) (fun K hK=>?_);go_simp)
   go_at_call 16;refine (ref3_Sort _ (p.l++[⟨k,⟨x1,x2⟩,x3,⟨x4,x5⟩,⟨x6,x7⟩,x8⟩]) _ (by rw [List.length_append,List.flatMap_append];simpa using (Sl.of_own HO6.out).a) (by have:=HLN.out;simp;omega)).mono ?_;rintro e V7 ⟨v7,rfl,hs7,hb7⟩
   rw [← HNW.out] at hs7
   obtain ⟨a7,c7,rfl⟩:=hs7.form
   have HS7:=Lib.hid hs7
   have HZ:=Lib.hid (HZ.out.trans (hb7.mono HZ.out.size))
   clear hs7 hb7 HO6
   (refine hK.out _ _ ⟨(HS0.out.below HZ.out).1,(HS1.out.below HZ.out).1⟩ (fun hHeld=>?_);clear hK K;(try simp only [Act.put,List.setIfInBounds_toArray,List.set]))
   (refine lyes 8 ?_);(try simp only [Act.put,List.setIfInBounds_toArray,List.set])
   obtain ⟨cg,fg,zg⟩:=HS0.out.below HZ.out
   (refine last_end 9 rfl (by kernel_rfl) (by kernel_rfl) (fun K hK=>?_);go_simp)
   clear cg fg zg
   have HBV:=Lib.hid (HBZ.out.trans (HZ.out.mono HBZ.out.size))
   have HTF:=Lib.hid (HTZ.out.later HZ.out)
   have ha0:=Lib.hid (HTF.out.a.put (o:=0) (v:=(.slice a7 LN.length c7)) (by simp))
   have hb0:=Lib.hid (HTF.out.b.setOther (g':=w.heap.size) (o:=0) (.slice a7 LN.length c7) (by omega))
   have HBF:=Lib.hid (HBV.out.setCell (p:=⟨w.heap.size,0,none⟩) (Nat.le_refl _) (.slice a7 LN.length c7))
   have HNF:=Lib.hid (HS7.out.set (o:=0) (x:=(.slice a7 LN.length c7)) (blkS4 HTF.out.a rfl rfl rfl rfl) (st_noSl _))
   have HSB:=Lib.hid (blkS4 hb0.out rfl rfl rfl rfl)
   clear HS7
   clear HBV HTF HTZ HBZ HPZ HZ HS0 HS1 HRW
   refine hK.out _ _ ?_
   clear hK K
   obtain ⟨wd,hwd2⟩:∃ X,X=V7.setCell ⟨w.heap.size,0,none⟩ (.slice a7 LN.length c7):=⟨_,rfl⟩
   rw [← hwd2] at ha0 hb0 HBF HNF HSB ⊢
   clear hwd2
   obtain ⟨ca,fa,za⟩:=ha0.out
   obtain ⟨cb,fb,zb⟩:=hb0.out
   go_wp2
   refine bodyPost_ret (v:=.tuple #[pv (.slice a7 LN.length c7) (.slice a1 p.g.length c1) (.slice a2 p.h.length c2) (.slice a3 zs.length c3),.int .i64 at0,.int .i64 y0]) (by simp [results,Tryz.results70,go_sem,cb]) rfl ?_
   refine ⟨_,_,_,_,zs,by rw [E.out],⟨⟨_,_,_,rfl⟩,⟨_,_,_,rfl⟩,⟨_,_,_,rfl⟩,⟨_,_,_,rfl⟩⟩,fun _=>?_,below_puts (g:=w.heap.size+1) (by omega) [(.slice a7 LN.length c7),(.slice a1 p.g.length c1),(.slice a2 p.h.length c2),(.slice a3 zs.length c3)] 0 wd HBF.out⟩
   rw [E.out]
   exact (HPD.out.below (below_puts (g:=w.heap.size+1) (by omega) [(.slice a7 LN.length c7),(.slice a1 p.g.length c1),(.slice a2 p.h.length c2),(.slice a3 zs.length c3)] 0 wd HBF.out)).l (Sl.puts (st_noSl _) [(.slice a7 LN.length c7),(.slice a1 p.g.length c1),(.slice a2 p.h.length c2),(.slice a3 zs.length c3)] 0 wd HNF.out HSB.out (by simp) (by simp [isSl])).a
 ·go_simp
  have HO:Hid ((WZ.alloc (.cells #[.int .i64 k,.string x1,.string x2,.string x3,.string x4,.string x5,.string x6,.string x7,.string x8] 80)).ownsRow WZ.heap.size _ _ _ _ _):=Lib.hid (own_alloc1 (w0:=WZ) (w:=WZ) (e:=80) (size:=9) (m:=1) (cs:=St.cells ⟨k,⟨x1,x2⟩,x3,⟨x4,x5⟩,⟨x6,x7⟩,x8⟩) (Nat.le_refl _) rfl (by decide))
  obtain ⟨V1,hV1⟩:∃ X,X=WZ.alloc (.cells #[.int .i64 k,.string x1,.string x2,.string x3,.string x4,.string x5,.string x6,.string x7,.string x8] 80):=⟨_,rfl⟩
  rw [← hV1]
  have hbq:Below WZ.heap.size WZ V1:=by rw [hV1];exact (Below.refl _ _).alloc (Nat.le_refl _) _
  have HZ:=Lib.hid (HZ.out.trans (hbq.mono HZ.out.size))
  rw [← hV1] at HO
  clear hbq hV1
  (refine hK.out _ _ ⟨(HS0.out.below HZ.out).1,(HS1.out.below HZ.out).1⟩ (fun hHeld=>?_);clear hK K;(try simp only [Act.put,List.setIfInBounds_toArray,List.set]))
  (refine last_call 0 rfl (by kernel_rfl) (fun K hK=>?_);go_simp)
  have HT:=Lib.hid (RowsTwo.new HZ.out HO.out).swap
  obtain ⟨V2,hV2⟩:∃ X,X=V1.alloc (.cells #[] 80):=⟨_,rfl⟩
  rw [← hV2]
  have hbq:Below V1.heap.size V1 V2:=by rw [hV2];exact (Below.refl _ _).alloc (Nat.le_refl _) _
  have HZ:=Lib.hid (HZ.out.trans (hbq.mono HZ.out.size))
  rw [← hV2] at HT
  clear hbq hV2 HO
  (refine hK.out _ _ ⟨(HS0.out.below HZ.out).1,(HS1.out.below HZ.out).1⟩ (fun hHeld=>?_);clear hK K;(try simp only [Act.put,List.setIfInBounds_toArray,List.set]))
  refine last_call 3 rfl (by kernel_rfl) (fun K hK=>?_)
  refine step_rowE rfl _ _ 22 rfl WZ.heap.size 80 inf _ 9 136 Tryz.underlying22 HIN.out hs0 hs1 hs2 (by decide) rfl (by decide) _ 0 _ rfl HT.out.o1 _ p.l.length _ rfl (HRW.out.below HZ.out) (sts_one _) (by have:=HLN.out;omega) HZ.out.size ?_
  intro a3' c3' V3 hown3 hg3 hne3
  simp only [Nat.zero_add,List.nil_append] at hown3 hne3 ⊢
  have HT:=Lib.hid (HT.out.grow1 hown3 hg3 hne3)
  have HZ:=Lib.hid HT.out.low
  clear hown3 hg3 hne3
  (refine hK.out _ _ ⟨(HS0.out.below HZ.out).1,(HS1.out.below HZ.out).1⟩ (fun hHeld=>?_);clear hK K;(try simp only [Act.put,List.setIfInBounds_toArray,List.set]))

  refine last_call 6 rfl (by kernel_rfl) (fun K hK=>?_)
  refine step_rowE rfl _ _ 22 rfl WZ.heap.size 80 inf _ 9 136 Tryz.underlying22 HIN.out hs0 hs1 hs2 (by decide) rfl (by decide) _ (p.l.length) _ rfl HT.out.o1 _ 1 _ rfl (Sl.of_own HT.out.o2).a (st_one _) (by have:=HLN.out;omega) HT.out.low.size ?_
  intro a6 c6 V6 hown6 hg6 hne6
  have HZ:=Lib.hid (below_own HT.out.low HT.out.o1 hg6 HT.out.low.size (Nat.le_refl _))
  have HO6:=Lib.hid hown6
  clear hg6 hne6 hown6 HT
  (refine hK.out _ _ ⟨(HS0.out.below HZ.out).1,(HS1.out.below HZ.out).1⟩ (fun hHeld=>?_);clear hK K;(try simp only [Act.put,List.setIfInBounds_toArray,List.set]))
  (refine last_call 7 rfl (by kernel_rfl) (fun K hK=>?_);go_simp)
  go_at_call 16;refine (ref3_Sort _ (p.l++[⟨k,⟨x1,x2⟩,x3,⟨x4,x5⟩,⟨x6,x7⟩,x8⟩]) _ (by rw [List.length_append,List.flatMap_append];simpa using (Sl.of_own HO6.out).a) (by have:=HLN.out;simp;omega)).mono ?_;rintro e V7 ⟨v7,rfl,hs7,hb7⟩
  rw [← HNW.out] at hs7
  obtain ⟨a7,c7,rfl⟩:=hs7.form
  have HS7:=Lib.hid hs7
  have HZ:=Lib.hid (HZ.out.trans (hb7.mono HZ.out.size))
  clear hs7 hb7 HO6
  (refine hK.out _ _ ⟨(HS0.out.below HZ.out).1,(HS1.out.below HZ.out).1⟩ (fun hHeld=>?_);clear hK K;(try simp only [Act.put,List.setIfInBounds_toArray,List.set]))
  (refine lyes 8 ?_);(try simp only [Act.put,List.setIfInBounds_toArray,List.set])
  obtain ⟨cg,fg,zg⟩:=HS0.out.below HZ.out
  (refine last_end 9 rfl (by kernel_rfl) (by kernel_rfl) (fun K hK=>?_);go_simp)
  clear cg fg zg
  have HBV:=Lib.hid (HBZ.out.trans (HZ.out.mono HBZ.out.size))
  have HTF:=Lib.hid (HTZ.out.later HZ.out)
  have ha0:=Lib.hid (HTF.out.a.put (o:=0) (v:=(.slice a7 LN.length c7)) (by simp))
  have hb0:=Lib.hid (HTF.out.b.setOther (g':=w.heap.size) (o:=0) (.slice a7 LN.length c7) (by omega))
  have HBF:=Lib.hid (HBV.out.setCell (p:=⟨w.heap.size,0,none⟩) (Nat.le_refl _) (.slice a7 LN.length c7))
  have HNF:=Lib.hid (HS7.out.set (o:=0) (x:=(.slice a7 LN.length c7)) (blkS4 HTF.out.a rfl rfl rfl rfl) (st_noSl _))
  have HSB:=Lib.hid (blkS4 hb0.out rfl rfl rfl rfl)
  clear HS7
  clear HBV HTF HTZ HBZ HPZ HZ HS0 HS1 HRW
  refine hK.out _ _ ?_
  clear hK K
  obtain ⟨wd,hwd2⟩:∃ X,X=V7.setCell ⟨w.heap.size,0,none⟩ (.slice a7 LN.length c7):=⟨_,rfl⟩
  rw [← hwd2] at ha0 hb0 HBF HNF HSB ⊢
  clear hwd2
  obtain ⟨ca,fa,za⟩:=ha0.out
  obtain ⟨cb,fb,zb⟩:=hb0.out
  go_wp2
  refine bodyPost_ret (v:=.tuple #[pv (.slice a7 LN.length c7) (.slice a1 p.g.length c1) (.slice a2 p.h.length c2) (.slice a3 zs.length c3),.int .i64 at0,.int .i64 y0]) (by simp [results,Tryz.results70,go_sem,cb]) rfl ?_
  refine ⟨_,_,_,_,zs,by rw [E.out],⟨⟨_,_,_,rfl⟩,⟨_,_,_,rfl⟩,⟨_,_,_,rfl⟩,⟨_,_,_,rfl⟩⟩,fun _=>?_,below_puts (g:=w.heap.size+1) (by omega) [(.slice a7 LN.length c7),(.slice a1 p.g.length c1),(.slice a2 p.h.length c2),(.slice a3 zs.length c3)] 0 wd HBF.out⟩
  rw [E.out]
  exact (HPD.out.below (below_puts (g:=w.heap.size+1) (by omega) [(.slice a7 LN.length c7),(.slice a1 p.g.length c1),(.slice a2 p.h.length c2),(.slice a3 zs.length c3)] 0 wd HBF.out)).l (Sl.puts (st_noSl _) [(.slice a7 LN.length c7),(.slice a1 p.g.length c1),(.slice a2 p.h.length c2),(.slice a3 zs.length c3)] 0 wd HNF.out HSB.out (by simp) (by simp [isSl])).a
end
end Go.Proofs.YtomhekohcadijaaGreatDoor
