/- Parts: RefMat Builder StrJoin StrJoinL -/
import Derived.Test.YtilgbodgmkmjjaaGreatDoorPart19
import Derived.Test.YtilgbodgmkmjjaaGreatDoorPart18
import Derived.Test.YtilgbodgmkmjjaaGreatDoorPart12
import Derived.Test.YtilgbodgmkmjjaaGreatDoorPart1
import Derived.Shelf.Strings.BuilderK
import Derived.Test.YtilgbodgmkmjjaaGreatDoorShelfP
import Derived.Test.YtilgbodgmkmjjaaGreatDoorPart3
import Derived.Shelf.Strings.OnBuilder
import Derived.Test.YtilgbodgmkmjjaaGreatDoorPart5
namespace Go.Proofs.YtilgbodgmkmjjaaGreatDoor
section
open Go.RowKit Go.Shelf

set_option maxRecDepth 100000 in
set_option maxHeartbeats 2000000 in
theorem ref1_SameL (va vb:Value) (l m:List ByteArray) (w:World) (ha:SlA w 1 va l.length (strs l)) (hb:SlA w 1 vb m.length (strs m)) :
  Calls Tryz.prog 52 #[va,vb] w fun e w'=>e=.returned (.bool (decide (l=m)))∧∃ n,w'=w.drewN n:=by
 have hmax:=ha.max
 have hmax2:=hb.max
 by_cases hl:l.length=m.length
 case neg =>
  have R:=Lib.hid (same_lenT hl)
  have d:((l.length:Int) != (m.length:Int))=true:=by rw [bne_iff_ne];omega
  obtain ⟨a1,c1,rfl⟩:=ha.form
  obtain ⟨a2,c2,rfl⟩:=hb.form
  clear ha hb hl
  go_enter Tryz.func52,Tryz.ntmps52
  go_wp2
  go_ret
  exact ⟨ret_b R.out.symm,0,rfl⟩
 have hne:((l.length:Int) != (m.length:Int))=false:=by rw [hl];simp
 by_cases h0:0 < l.length
 ·obtain ⟨b1,o1,c1,rfl,hc1,hm1,_,hx1⟩:=ha.pos h0
  obtain ⟨b2,o2,c2,rfl,hc2,hm2,_,hx2⟩:=hb.pos (by omega)
  have HX1:=Lib.hid hx1
  have HX2:=Lib.hid hx2
  have HL:=Lib.hid hl
  clear ha hb hx1 hx2 hl
  go_enter Tryz.func52,Tryz.ntmps52
  go_wp2
  go_loopw [13] (fun i wr => ∃ k n:Nat,k≤l.length∧i=.int .i64 k∧wr=w.drewN n∧Hid (l.take k=m.take k)) (fun i _=>l.length - (intOf i).toNat)
  case atStart=>exact ⟨0,0,by omega,rfl,rfl,Lib.hid (by simp)⟩
  case round =>
   obtain ⟨k,n,hk,rfl,rfl,HT⟩:=hrel
   by_cases hlt:k < l.length
   ·have hlt2:k < m.length:=by have:=HL.out;omega
    have p0:=HX1.out k _ (strs_get hlt)
    have q0:=HX2.out k _ (strs_get hlt2)
    by_cases he:l[k]=m[k]
    ·have HN:=Lib.hid (take_moreT HT.out hlt hlt2 he)
     have d1:(!(l[k].toList == m[k].toList))=false:=by rw [beq_str,decide_eq_true he];rfl
     clear he
     generalize l[k]=x at *
     generalize m[k]=y at *
     go_wp2_with fail
     go_big_quiet (fail)
     go_wp2
     exact ⟨⟨k+1,n+nq,by omega,by go_num,rfl,HN⟩,by simp [intOf];omega⟩
    ·have R:=Lib.hid (same_noT hlt hlt2 he)
     have d1:(!(l[k].toList == m[k].toList))=true:=by rw [beq_str,decide_eq_false he];rfl
     clear he
     generalize l[k]=x at *
     generalize m[k]=y at *
     go_wp2_with fail
     go_big_quiet (fail)
     go_wp2
     go_ret
     exact ⟨ret_b R.out.symm,n+nq,by simp [World.drewN,Nat.add_assoc]⟩
   ·have R:=Lib.hid (same_endT HT.out hlt (by have:=HL.out;omega))
    go_wp2
    go_ret
    exact ⟨ret_b R.out.symm,n,rfl⟩
 ·have R:=Lib.hid (same_endT (l:=l) (m:=m) (k:=0) (by simp) h0 (by omega))
  obtain ⟨a1,c1,rfl⟩:=ha.form
  obtain ⟨a2,c2,rfl⟩:=hb.form
  have d0:l.length=0:=by omega
  have d02:m.length=0:=by omega
  clear ha hb h0 hmax hl hmax2
  go_enter Tryz.func52,Tryz.ntmps52
  go_wp2
  go_loopw [13] (fun i wr=>i=.int .i64 0∧wr=w) (fun _ _=>0)
  case atStart=>exact ⟨rfl,rfl⟩
  case round =>
   obtain ⟨rfl,rfl⟩:=hrel
   go_wp2
   go_ret
   exact ⟨ret_b R.out.symm,0,rfl⟩
theorem mrr_info:(Tryz.prog.info? 44).map (fun i=>(i.zero,i.size,i.bytes))=some (some (.agg #[.string emp,.string emp,.slice none 0 0,.slice none 0 0,.bool false,.int .i64 0]),6,96):=by kernel_rfl
theorem RowsIn.farE {w w':World} {R:List MV} {B n size:Nat} {e:TypeId} {v:Value} {xs:List Value} (h:RowsIn w R) (he:9≠e) (ho:w.ownsRow B e size v n xs) (hg:w.grownBy w' v.ownBlock):RowsIn w' R :=
 fun x hx=>⟨own_far (h x hx).1 ho hg he,own_far (h x hx).2 ho hg he⟩
section
variable {w:World} {v0 v1 v2 v3:Value} {l:List St} {g h:List Rl} {qs:List Qv} {F:Qv→List ByteArray} {PS NS:List ByteArray}
set_option maxRecDepth 100000 in
set_option maxHeartbeats 16000000 in
theorem ref41_Of (P:PolX w v0 v1 v2 v3 l g h qs F PS NS) (h5:PS.length≤5) (h4:NS.length≤4) :
  Calls Tryz.prog 16 #[pv v0 v1 v2 v3] w fun e w' => ∃ (v:Value) (ps es:List Pr) (R:List MV),e=.returned v∧LeastS (minS l h) (fun r x=>(r,x)∈ps)∧LeastS (maxS l g PS NS) (fun r x=>(r,x)∈es)∧Sl w' 6 v R.length (R.flatMap MV.cells)∧RowsIn w' R∧R.map MV.s=(allR PS NS).map (rowM ps es (freshB PS))∧Below w.heap.size w w':=by
 have FR:=Lib.hid (fun W (hb:Below w.heap.size w W)=>ref12_Fresh (P.below hb))
 have MI:=Lib.hid (fun W (hb:Below w.heap.size w W)=>ref11_Minimal v0 v1 v2 v3 l g h qs W (P.at_.below hb) (by have:=P.hl;omega))
 have MA:=Lib.hid (fun W (hb:Below w.heap.size w W)=>ref12_Maximal (P.below hb) (by omega) h4)
 have PP:=Lib.hid (fun W (hb:Below w.heap.size w W)=>ref5_PrinsX (P.below hb))
 have PN:=Lib.hid (fun W (hb:Below w.heap.size w W)=>ref5_NamesX (P.below hb))
 have hpx:=putX_len PS
 have hfew1:PS.length * NS.length * PS.length≤5 * 4 * 5:=Nat.mul_le_mul (Nat.mul_le_mul h5 h4) h5
 have hfew2:(putX PS).length * NS.length * (putX PS).length≤6 * 4 * 6:=Nat.mul_le_mul (Nat.mul_le_mul (by omega) h4) (by omega)
 have BD1:=Lib.hid (fun ps hn hs=>Nat.le_trans (sound_few (fun s hs=>P.inAB s (List.mem_filter.1 hs).1:∀ s∈minS l h,InAB PS NS s) ps hn hs) hfew1)
 have BD2:=Lib.hid (fun ps hn hs=>Nat.le_trans (sound_few (maxS_in (g:=g) P.inAB) ps hn hs) hfew2)
 obtain ⟨a0,c0,rfl⟩:=P.at_.rs.form
 obtain ⟨a1,c1,rfl⟩:=P.at_.rg.form
 obtain ⟨a2,c2,rfl⟩:=P.at_.rh.form
 obtain ⟨a3,c3,rfl⟩:=P.at_.rq.form
 have HT:=Lib.hid (show OneAt w #[.slice a0 l.length c0,.slice a1 g.length c1,.slice a2 h.length c2,.slice a3 qs.length c3] (w.alloc (.cells #[.slice a0 l.length c0,.slice a1 g.length c1,.slice a2 h.length c2,.slice a3 qs.length c3] 26)) from ⟨Blk.new w _ _,(Below.refl _ _).alloc (Nat.le_refl _) _⟩)
 obtain ⟨X,hX⟩:∃ X,X=freshB PS:=⟨_,rfl⟩
 rw [← hX] at FR ⊢
 clear P hX hfew1 hfew2 hpx
 generalize maxS l g PS NS=mx at *
 generalize minS l h=mn at *
 go_enter Tryz.func16,Tryz.ntmps16
 go_wp2_with fail
 refine wp_region_held_drew (S:=(fun W => ∀ o,W.cell? ⟨w.heap.size,o,none⟩=(#[.slice a0 l.length c0,.slice a1 g.length c1,.slice a2 h.length c2,.slice a3 qs.length c3]:Array Value)[o]?)) (by kernel_rfl) HT.out.drew.a.1 (fun hHeld=>?_)
 have HT:=HT.out.drew
 obtain ⟨wk,hwk⟩:∃ W,W=(w.alloc (.cells #[.slice a0 l.length c0,.slice a1 g.length c1,.slice a2 h.length c2,.slice a3 qs.length c3] 26)).drew:=⟨_,rfl⟩
 rw [← hwk] at HT hHeld ⊢
 clear hwk
 (refine hyes 0 ?_);(refine hyes 3 ?_);(try simp only [Act.put,List.setIfInBounds_toArray,List.set])
 (refine held_call 1 rfl (by kernel_rfl) (fun K hK=>?_);go_simp)
 go_at_call 82;refine (MI.out _ HT.low).mono ?_;rintro e wz1 ⟨vm,rfl,hm1,hbq⟩;obtain ⟨ma,mc,rfl⟩:=hm1.form
 have HT:=HT.later hbq
 have HM1:=Lib.hid hm1
 clear hm1 hbq MI
 (refine hK.out _ _ (HT.a.1) (fun hHeld=>?_);clear hK K;(try simp only [Act.put,List.setIfInBounds_toArray,List.set]))
 (refine held_call 2 rfl (by kernel_rfl) (fun K hK=>?_);go_simp)
 go_at_call 44;refine (ref11_Eval (.slice ma mn.length mc) mn 100 _ HM1.out (by omega) BD1.out).mono ?_;rintro e wz2 ⟨v6,ps,rfl,ho6,hle1,_,hpl,hbq⟩
 obtain ⟨a6,c6,rfl⟩:=own_form ho6
 have HT:=HT.later hbq
 have HSp:=Lib.hid (Sl.of_own ho6).a
 have HLE1:=Lib.hid hle1
 clear hbq ho6 hle1 BD1 HM1
 (refine hK.out _ _ (HT.a.1) (fun hHeld=>?_);clear hK K;(try simp only [Act.put,List.setIfInBounds_toArray,List.set]))
 (refine held_call 4 rfl (by kernel_rfl) (fun K hK=>?_);go_simp)
 go_at_call 46;refine (MA.out _ HT.low).mono ?_;rintro e wz4 ⟨vx,rfl,hx1,hbq⟩;obtain ⟨xa,xc,rfl⟩:=hx1.form
 have HT:=HT.later hbq
 have HX1:=Lib.hid hx1
 have HSp:=Lib.hid (HSp.out.below hbq)
 clear hx1 hbq MA
 (refine hK.out _ _ (HT.a.1) (fun hHeld=>?_);clear hK K;(try simp only [Act.put,List.setIfInBounds_toArray,List.set]))
 (refine held_call 5 rfl (by kernel_rfl) (fun K hK=>?_);go_simp)
 go_at_call 44;refine (ref11_Eval (.slice xa mx.length xc) mx 144 _ HX1.out.a (by omega) BD2.out).mono ?_;rintro e wz5 ⟨v7,es,rfl,ho7,hle2,_,hel,hbq⟩
 obtain ⟨a7,c7,rfl⟩:=own_form ho7
 have HT:=HT.later hbq
 have HSp:=Lib.hid (HSp.out.below hbq)
 have HSe:=Lib.hid (Sl.of_own ho7).a
 have HLE2:=Lib.hid hle2
 clear hbq ho7 hle2 BD2 HX1
 (refine hK.out _ _ (HT.a.1) (fun hHeld=>?_);clear hK K;(try simp only [Act.put,List.setIfInBounds_toArray,List.set]))
 (refine hyes 6 ?_);(refine hyes 7 ?_);(try simp only [Act.put,List.setIfInBounds_toArray,List.set])
 refine wpAnyH_done (by kernel_rfl) ?_ _
 have HTr:=Lib.hid HT
 clear HT
 have HT:=HTr
 clear HTr
 have hpl:ps.length≤10000:=by omega
 have hel:es.length≤10000:=by omega
 obtain ⟨ca,fa,za⟩:=HT.out.a
 go_wp2_with fail
 refine (PP.out _ HT.out.low).mono ?_
 rintro e w5 ⟨vp,rfl,hop,hb5⟩
 obtain ⟨pa,pc,rfl⟩:=own_form hop
 have HT:=Lib.hid (HT.out.later hb5)
 have HSpr:=Lib.hid (HSp.out.below hb5)
 have HSer:=Lib.hid (HSe.out.below hb5)
 have HPo:=Lib.hid (own_mono hop (Nat.zero_le _))
 clear hb5 hop PP ca fa za HSp HSe
 go_wp2_with fail
 have hz5:w.heap.size < w5.heap.size:=HT.out.a.2.2
 go_loopw [5,22] (fun vo i wr => ∃ (k:Nat) (R:List MV),k≤PS.length∧i=.int .i64 k∧Hid (R.map MV.s=(allR (PS.take k) NS).map (rowM ps es X))∧Hid (Below w5.heap.size w5 wr)∧Hid (wr.ownsRow w5.heap.size 44 6 vo R.length (R.flatMap MV.cells))∧Hid (RowsIn wr R)) (fun _ i _=>PS.length - (intOf i).toNat)
 case atStart=>exact ⟨0,[],by omega,rfl,Lib.hid rfl,Lib.hid (Below.refl _ _),Lib.hid (World.ownsRow_nil _ _ _ _),Lib.hid (fun _ hx=>by cases hx)⟩
 case round =>
  obtain ⟨k,R,hk,rfl,HE,HB,HO,HR⟩:=hrel
  obtain ⟨oo,oc,rfl⟩:=own_form HO.out
  have hRl:R.length≤5 * 4:=by
   have:=congrArg List.length HE.out
   rw [List.length_map,List.length_map,allR_len] at this
   rw [this]
   exact Nat.mul_le_mul (by have:=List.length_take_le k PS;omega) h4
  by_cases hlt:k < PS.length
  ·obtain ⟨b1,o1,rfl,p0,hc1,hm1,hb1⟩:=own_text (own_below HPo.out HB.out) hlt rfl
   have HF:=Lib.hid (allR_snoc (B:=NS) hlt)
   generalize PS[k]=x at *
   have HTr:=Lib.hid (HT.out.later HB.out)
   obtain ⟨ca,fa,za⟩:=HTr.out.a
   go_wp2_with fail
   refine (PN.out _ HTr.out.low).mono ?_
   rintro e w6 ⟨vn,rfl,hon,hb6⟩
   obtain ⟨an,cn,rfl⟩:=own_form hon
   have HB6:=Lib.hid (HB.out.trans (hb6.mono HB.out.size))
   have HO6:=Lib.hid (own_below HO.out hb6)
   have HR6:=Lib.hid (HR.out.below hb6)
   have HN6:=Lib.hid (own_mono hon (Nat.zero_le _))
   clear hon hb6 ca fa za p0 hb1 HTr HB HO HR
   go_wp2_with fail
   go_loopw [5,29] (fun vo i wr2 => ∃ (m:Nat) (S:List MV),m≤NS.length∧i=.int .i64 m∧Hid (S.map MV.s=R.map MV.s++((NS.take m).map (fun n=>(⟨x,n⟩:Rl))).map (rowM ps es X))∧Hid (Below w5.heap.size w5 wr2)∧Hid (wr2.ownsRow w5.heap.size 44 6 vo S.length (S.flatMap MV.cells))∧Hid (RowsIn wr2 S)∧Hid (wr2.ownsRow 0 9 1 (.slice an NS.length cn) NS.length (strs NS))) (fun _ i _=>NS.length - (intOf i).toNat)
   case atStart=>exact ⟨0,R,by omega,rfl,Lib.hid (by simp),HB6,HO6,HR6,HN6⟩
   case round =>
    clear HB6 HO6 HR6 HN6
    obtain ⟨m,S,hm,rfl,HE2,HB,HO,HRS,HN⟩:=hrel
    obtain ⟨wr2,rfl⟩:∃ V,V=wr:=⟨_,rfl⟩
    obtain ⟨oo,oc,rfl⟩:=own_form HO.out
    have hSl:S.length≤R.length+12:=by
     have:=congrArg List.length HE2.out
     rw [List.length_map,List.length_append,List.length_map,List.length_map,List.length_map] at this
     have:=List.length_take_le m NS
     omega
    by_cases hlt2:m < NS.length
    ·obtain ⟨b2,o2,rfl,p0,hc2,hm2,hb2⟩:=own_text HN.out hlt2 rfl
     have HF2:=Lib.hid (map_snocT (f:=fun n=>(⟨x,n⟩:Rl)) hlt2)
     generalize NS[m]=y at *
     obtain ⟨W0,hW0⟩:∃ V,V=wr2.alloc (.cells #[.string x,.string y,.slice none 0 0,.slice none 0 0,.bool false,.int .i64 0] 44):=⟨_,rfl⟩
     obtain ⟨G,hG⟩:∃ G,G=wr2.heap.size:=⟨_,rfl⟩
     have hb0:Below wr2.heap.size wr2 W0:=by rw [hW0];exact (Below.refl _ _).alloc (Nat.le_refl _) _
     have HG0:=Lib.hid (show Blk W0 G #[.string x,.string y,.slice none 0 0,.slice none 0 0,.bool false,.int .i64 0] by rw [hW0,hG];exact Blk.new _ _ _)
     have M1:=Lib.hid (ref11_MembersO (.slice a6 ps.length c6) ps ⟨x,y⟩ W0 ((HSpr.out.below HB.out).below hb0) hpl)
     have HB0:=Lib.hid hb0
     have HGe:=Lib.hid hG
     clear hb0
     go_wp2_with fail
     rw [← hW0,← hG]
     clear hW0 hG
     obtain ⟨cg,fg,zg⟩:=HG0.out
     refine M1.out.mono ?_
     rintro e w7 ⟨v7,rfl,ho7,hb7⟩
     obtain ⟨la,lc,rfl⟩:=own_form ho7
     have HGb:=Lib.hid (HG0.out.below hb7)
     have HB7:=Lib.hid (HB0.out.trans (hb7.mono HB0.out.size))
     have HL7:=Lib.hid (own_mono ho7 (show G+1≤W0.heap.size from HG0.out.2.2))
     clear hb7 ho7 M1 HB0 HG0 cg fg zg
     generalize hlo:membersP ps ⟨x,y⟩=lo at *
     have HLO:=Lib.hid (show lo=membersP ps ⟨x,y⟩ from hlo.symm)
     clear hlo
     obtain ⟨cg,fg,zg⟩:=HGb.out
     go_upto_region 11 with fail
     have HG8:=Lib.hid (show Blk (w7.setCell ⟨G,2,none⟩ (.slice la lo.length lc)) G #[.string x,.string y,.slice la lo.length lc,.slice none 0 0,.bool false,.int .i64 0] from HGb.out.put (o:=2) (by simp))
     have HL8:=Lib.hid ((Kp.set (X:=fun b=>b=G) (w:=w7) (o:=2) (v:=.slice la lo.length lc) rfl).own HL7.out (fun g hg e=>by have:=(HL7.out.lt g hg).1;omega))
     have HB8:=Lib.hid (below_put (o:=2) (v:=.slice la lo.length lc) HB7.out (show wr2.heap.size≤G by have:=HGe.out;omega))
     obtain ⟨w8,hw8⟩:∃ V,V=w7.setCell ⟨G,2,none⟩ (.slice la lo.length lc):=⟨_,rfl⟩
     rw [← hw8] at HG8 HL8 HB8 ⊢
     clear hw8 HGb HL7 HB7 cg fg zg
     have M2:=Lib.hid (ref11_MembersO (.slice a7 es.length c7) es ⟨x,y⟩ w8 ((HSer.out.below HB.out).below HB8.out) hel)
     obtain ⟨cg,fg,zg⟩:=HG8.out
     go_wp2_with fail
     refine M2.out.mono ?_
     rintro e w9 ⟨v9,rfl,ho9,hb9⟩
     obtain ⟨ea,ec,rfl⟩:=own_form ho9
     have HG9:=Lib.hid (HG8.out.below hb9)
     have HB9:=Lib.hid (HB8.out.trans (hb9.mono HB8.out.size))
     have HLv9:=Lib.hid (own_below HL8.out hb9)
     have HC9:=Lib.hid (own_mono ho9 (show G+1≤w8.heap.size from HG8.out.2.2))
     clear hb9 ho9 M2 HG8 HL8 HB8 cg fg zg
     have hGw:G < w9.heap.size:=HG9.out.2.2
     obtain ⟨A,hA⟩:∃ A,A=membersP es ⟨x,y⟩:=⟨_,rfl⟩
     rw [← hA] at HC9 ⊢
     have hAl:A.length≤10000:=by rw [hA];exact Nat.le_trans (membersP_len _ _) hel
     have HA:=Lib.hid hA
     clear hA
     go_wp2_with fail
     go_loopw [47] (fun i wr4 => ∃ (j:Nat) (hv:Value) (zs:List ByteArray) (op:Bool),j≤A.length∧i=.int .i64 j∧Hid (zs=(A.take j).filter (fun y => !decide (y=X)))∧Hid (op=(A.take j).any (fun y=>decide (y=X)))∧Hid (Kp1 G w9 wr4)∧Hid (Blk wr4 G #[.string x,.string y,.slice la lo.length lc,hv,.bool op,.int .i64 0])∧Hid (wr4.ownsRow w9.heap.size 9 1 hv zs.length (strs zs))) (fun i _=>A.length - (intOf i).toNat)
     case atStart=>exact ⟨0,.slice none 0 0,[],false,by omega,rfl,Lib.hid rfl,Lib.hid rfl,Lib.hid (Kp.refl _ _),HG9,Lib.hid (World.ownsRow_nil _ _ _ _)⟩
     case round =>
      clear HG9
      obtain ⟨j,hv,zs,op,hj,rfl,HZS,HOP,HK,HGb,HHv⟩:=hrel
      obtain ⟨wr4,rfl⟩:∃ V,V=wr:=⟨_,rfl⟩
      obtain ⟨ha,hc,rfl⟩:=own_form HHv.out
      have hzl:zs.length≤10000:=by rw [HZS.out];have h1:=List.length_filter_le (fun y => !decide (y=X)) (A.take j);have:=List.length_take_le j A;omega
      have hb4:Below wr2.heap.size wr2 wr4:=by rw [← HGe.out];rw [← HGe.out] at HB9;exact HB9.out.trans (HK.out.below (by omega))
      have HB4:=Lib.hid hb4
      clear hb4
      by_cases hlt4:j < A.length
      ·obtain ⟨b3,o3,rfl,p1,hc3,hm3,hb3⟩:=own_cell (HK.out.own HC9.out (fun g hg e=>by have:=(HC9.out.lt g hg).1;omega)) (strs_get hlt4)
       have TF:=Lib.hid (take_filter (p:=fun y => !decide (y=X)) hlt4)
       have TA:=Lib.hid (take_any (p:=fun y=>decide (y=X)) hlt4)
       generalize A[j]=z at *
       have HTc:=Lib.hid ((HT.out.later HB.out).later HB4.out)
       obtain ⟨ct,ft,zt⟩:=HTc.out.a
       go_wp2_with fail
       refine (FR.out _ HTc.out.low).mono ?_
       rintro e w10 ⟨rfl,hb10⟩
       have HGb:=Lib.hid (HGb.out.below hb10)
       have HK:=Lib.hid (HK.out.later hb10)
       have HHv:=Lib.hid (own_below HHv.out hb10)
       clear hb10 ct ft zt HTc p1 hb3 HB4
       obtain ⟨cg,fg,zg⟩:=HGb.out
       by_cases hzX:z=X
       ·have dz:(z.toList == X.toList)=true:=by rw [beq_str,decide_eq_true hzX]
        have TF:=Lib.hid (show (A.take (j+1)).filter (fun y => !decide (y=X))=(A.take j).filter (fun y => !decide (y=X)) by rw [TF.out,decide_eq_true hzX];simp)
        have TA:=Lib.hid (show (A.take (j+1)).any (fun y=>decide (y=X))=true by rw [TA.out,decide_eq_true hzX,Bool.or_true])
        clear hzX
        go_wp2_with fail
        have HGb:=Lib.hid (show Blk (w10.setCell ⟨G,4,none⟩ (.bool true)) G #[.string x,.string y,.slice la lo.length lc,.slice ha zs.length hc,.bool true,.int .i64 0] from HGb.out.put (o:=4) (by simp))
        have HK5:=Lib.hid (HK.out.set (o:=4) (v:=.bool true))
        have HHv:=Lib.hid ((Kp.set (X:=fun b=>b=G) (w:=w10) (o:=4) (v:=.bool true) rfl).own HHv.out (fun g hg e=>by have:=(HHv.out.lt g hg).1;omega))
        exact ⟨⟨j+1,.slice ha zs.length hc,zs,true,by omega,by go_num,Lib.hid (by rw [TF.out,HZS.out]),Lib.hid TA.out.symm,HK5,HGb,HHv⟩,by simp [intOf];omega⟩
       ·have dz:(z.toList == X.toList)=false:=by rw [beq_str,decide_eq_false hzX]
        have TF:=Lib.hid (show (A.take (j+1)).filter (fun y => !decide (y=X))=(A.take j).filter (fun y => !decide (y=X))++[z] by rw [TF.out,decide_eq_false hzX];simp)
        have TA:=Lib.hid (show (A.take (j+1)).any (fun y=>decide (y=X))=(A.take j).any (fun y=>decide (y=X)) by rw [TA.out,decide_eq_false hzX,Bool.or_false])
        clear hzX
        have hown:=HHv.out
        have hks:=HK.out.size
        go_wp2_with (at_builtin;refine halt_ ?_)
        unfold Halt_
        refine app_own Tryz.underlying38 str_info rfl (by decide) (by decide) rfl _ _ rfl w9.heap.size rfl (hown.alloc _) [.string z] rfl (heap_new1 _ _) rfl (str1 _) ?_ ?_ ?_
        ·omega
        ·simp;omega
        intro a' cap' w12 hown' hgrow
        have HGb:=Lib.hid ((HGb.out.alloc _).grown hgrow (fun e=>by have:=(HHv.out.lt G e.symm).1;omega))
        have HK:=Lib.hid ((HK.out.later ((Below.refl w10.heap.size w10).alloc (Nat.le_refl _) (.cells #[.string z] 9))).grown (hown.alloc _) hgrow (Nat.le_refl _))
        clear hown hgrow hks cg fg zg
        obtain ⟨cg,fg,zg⟩:=HGb.out
        go_wp2_with fail
        have HGb:=Lib.hid (show Blk (w12.setCell ⟨G,3,none⟩ (.slice a' (zs.length+1) cap')) G #[.string x,.string y,.slice la lo.length lc,.slice a' (zs.length+1) cap',.bool op,.int .i64 0] from HGb.out.put (o:=3) (by simp))
        have HK5:=Lib.hid (HK.out.set (o:=3) (v:=.slice a' (zs.length+1) cap'))
        have HHv:=Lib.hid (show (w12.setCell ⟨G,3,none⟩ (.slice a' (zs.length+1) cap')).ownsRow w9.heap.size 9 1 (.slice a' (zs.length+1) cap') (zs++[z]).length (strs (zs++[z])) by
         rw [List.length_append,strs_snoc]
         exact (Kp.set (X:=fun b=>b=G) rfl).own hown' (fun g hg e=>by have:=(hown'.lt g hg).1;omega))
        exact ⟨⟨j+1,.slice a' (zs.length+1) cap',zs++[z],op,by omega,by go_num,Lib.hid (by rw [TF.out,HZS.out]),Lib.hid (by rw [TA.out,HOP.out]),HK5,HGb,HHv⟩,by simp [intOf];omega⟩
      ·have hjA:A.length≤j:=by omega
       have HHI:=Lib.hid (show zs=(membersP es ⟨x,y⟩).filter (fun y => !decide (y=X)) by rw [HZS.out,List.take_of_length_le hjA,HA.out])
       have HOPX:=Lib.hid (show op=(membersP es ⟨x,y⟩).any (fun y=>decide (y=X)) by rw [HOP.out,List.take_of_length_le hjA,HA.out])
       have HLv:=Lib.hid (HK.out.own HLv9.out (fun g hg e=>by have:=(HLv9.out.lt g hg).1;omega))
       have HHv:=Lib.hid (own_mono HHv.out (show G+1≤w9.heap.size from hGw))
       have HBx:=HB4
       clear HZS HOP HK HC9 HLv9 HB9 HB4 HA hjA
       obtain ⟨cg,fg,zg⟩:=HGb.out
       go_upto_region 19 with fail
       have HGb:=Lib.hid (show Blk (wr4.setCell ⟨G,5,none⟩ (.int .i64 2)) G #[.string x,.string y,.slice la lo.length lc,.slice ha zs.length hc,.bool op,.int .i64 2] from HGb.out.put (o:=5) (by simp))
       have HLv:=Lib.hid ((Kp.set (X:=fun b=>b=G) (w:=wr4) (o:=5) (v:=.int .i64 2) rfl).own HLv.out (fun g hg e=>by have:=(HLv.out.lt g hg).1;omega))
       have HHv:=Lib.hid ((Kp.set (X:=fun b=>b=G) (w:=wr4) (o:=5) (v:=.int .i64 2) rfl).own HHv.out (fun g hg e=>by have:=(HHv.out.lt g hg).1;omega))
       have HBx:=Lib.hid (below_put (o:=5) (v:=.int .i64 2) HBx.out (show wr2.heap.size≤G by have:=HGe.out;omega))
       obtain ⟨w10,hw10⟩:∃ V,V=wr4.setCell ⟨G,5,none⟩ (.int .i64 2):=⟨_,rfl⟩
       rw [← hw10] at HGb HLv HHv HBx ⊢
       clear hw10 cg fg zg
       obtain ⟨cg,fg,zg⟩:=HGb.out
       go_wp2_with fail
       refine (ref1_SameL (.slice la lo.length lc) (.slice ha zs.length hc) lo zs w10 (Sl.of_own HLv.out).a (Sl.of_own HHv.out).a).mono ?_
       rintro e w11 ⟨rfl,n,hn⟩
       have hb11:Below w10.heap.size w10 w11:=by rw [hn];exact below_of_drewN n
       have HGb:=Lib.hid (HGb.out.below hb11)
       have HBx:=Lib.hid (HBx.out.trans (hb11.mono HBx.out.size))
       have HLv:=Lib.hid (own_below HLv.out hb11)
       have HHv:=Lib.hid (own_below HHv.out hb11)
       clear hb11 hn cg fg zg
       have HKI:=Lib.hid (show kindM op lo zs=if op=true then 3 else if zs.length=0 then 4 else if lo=zs then 1 else 2 from rfl)
       by_cases hs:lo=zs
       ·rw [decide_eq_true hs]
        have HSS:=Lib.hid hs
        clear hs
        obtain ⟨cg,fg,zg⟩:=HGb.out
        go_upto_region 21 with fail
        have HGb:=Lib.hid (show Blk (w11.setCell ⟨G,5,none⟩ (.int .i64 1)) G #[.string x,.string y,.slice la lo.length lc,.slice ha zs.length hc,.bool op,.int .i64 1] from HGb.out.put (o:=5) (by simp))
        have HLv:=Lib.hid ((Kp.set (X:=fun b=>b=G) (w:=w11) (o:=5) (v:=.int .i64 1) rfl).own HLv.out (fun g hg e=>by have:=(HLv.out.lt g hg).1;omega))
        have HHv:=Lib.hid ((Kp.set (X:=fun b=>b=G) (w:=w11) (o:=5) (v:=.int .i64 1) rfl).own HHv.out (fun g hg e=>by have:=(HHv.out.lt g hg).1;omega))
        have HBx:=Lib.hid (below_put (o:=5) (v:=.int .i64 1) HBx.out (show wr2.heap.size≤G by have:=HGe.out;omega))
        obtain ⟨w13,hwn⟩:∃ V,V=w11.setCell ⟨G,5,none⟩ (.int .i64 1):=⟨_,rfl⟩
        rw [← hwn] at HGb HLv HHv HBx ⊢
        clear hwn cg fg zg
        by_cases h0:zs.length=0
        ·have d0:((zs.length:Int) == 0)=true:=by rw [h0];rfl
         have HZ0:=Lib.hid h0
         clear h0
         obtain ⟨cg,fg,zg⟩:=HGb.out
         go_upto_region 23 with fail
         clear d0
         have HGb:=Lib.hid (show Blk (w13.setCell ⟨G,5,none⟩ (.int .i64 4)) G #[.string x,.string y,.slice la lo.length lc,.slice ha zs.length hc,.bool op,.int .i64 4] from HGb.out.put (o:=5) (by simp))
         have HLv:=Lib.hid ((Kp.set (X:=fun b=>b=G) (w:=w13) (o:=5) (v:=.int .i64 4) rfl).own HLv.out (fun g hg e=>by have:=(HLv.out.lt g hg).1;omega))
         have HHv:=Lib.hid ((Kp.set (X:=fun b=>b=G) (w:=w13) (o:=5) (v:=.int .i64 4) rfl).own HHv.out (fun g hg e=>by have:=(HHv.out.lt g hg).1;omega))
         have HBx:=Lib.hid (below_put (o:=5) (v:=.int .i64 4) HBx.out (show wr2.heap.size≤G by have:=HGe.out;omega))
         obtain ⟨w15,hwn⟩:∃ V,V=w13.setCell ⟨G,5,none⟩ (.int .i64 4):=⟨_,rfl⟩
         rw [← hwn] at HGb HLv HHv HBx ⊢
         clear hwn cg fg zg
         rcases Bool.eq_false_or_eq_true op with ho | ho
         ·subst ho
          obtain ⟨cg,fg,zg⟩:=HGb.out
          go_upto_region 25 with fail
          have HGb:=Lib.hid (show Blk (w15.setCell ⟨G,5,none⟩ (.int .i64 3)) G #[.string x,.string y,.slice la lo.length lc,.slice ha zs.length hc,.bool true,.int .i64 3] from HGb.out.put (o:=5) (by simp))
          have HLv:=Lib.hid ((Kp.set (X:=fun b=>b=G) (w:=w15) (o:=5) (v:=.int .i64 3) rfl).own HLv.out (fun g hg e=>by have:=(HLv.out.lt g hg).1;omega))
          have HHv:=Lib.hid ((Kp.set (X:=fun b=>b=G) (w:=w15) (o:=5) (v:=.int .i64 3) rfl).own HHv.out (fun g hg e=>by have:=(HHv.out.lt g hg).1;omega))
          have HBx:=Lib.hid (below_put (o:=5) (v:=.int .i64 3) HBx.out (show wr2.heap.size≤G by have:=HGe.out;omega))
          obtain ⟨w14,hwn⟩:∃ V,V=w15.setCell ⟨G,5,none⟩ (.int .i64 3):=⟨_,rfl⟩
          rw [← hwn] at HGb HLv HHv HBx ⊢
          clear hwn cg fg zg
          have HKK:=Lib.hid (show kindM true lo zs=3 by rw [HKI.out];rw [if_pos rfl])
          obtain ⟨kk,hkk⟩:∃ q:Int,q=3:=⟨_,rfl⟩
          rw [← hkk] at HGb HKK
          have HG12:=HGb
          have HB12:=HBx
          clear hkk HGb HBx HKI
          have HO12:=Lib.hid (own_below HO.out HB12.out)
          have HRS12:=Lib.hid (HRS.out.below HB12.out)
          have HN12:=Lib.hid (own_below HN.out HB12.out)
          obtain ⟨cg,fg,zg⟩:=HG12.out
          go_wp2_with (at_builtin;refine halt_ ?_)
          unfold Halt_
          refine app_own Tryz.underlying35 mrr_info rfl (by decide) (by decide) rfl _ _ rfl w5.heap.size rfl (HO12.out.alloc _) [.string x,.string y,.slice la lo.length lc,.slice ha zs.length hc,.bool true,.int .i64 kk] rfl (heap_new1 _ _) rfl (mv_one (x:=⟨⟨⟨x,y⟩,lo,zs,true,kk⟩,.slice la lo.length lc,.slice ha zs.length hc⟩) rfl rfl) ?_ ?_ ?_
          ·omega
          ·have h1:=HB12.out.size;have h2:=HB.out.size;simp;omega
          intro a' cap' w17 hown' hgrow
          have HL13:=Lib.hid (own_far (HLv.out.alloc _) (HO12.out.alloc _) hgrow (by decide))
          have HH13:=Lib.hid (own_far (HHv.out.alloc _) (HO12.out.alloc _) hgrow (by decide))
          have HN13:=Lib.hid (own_far (HN12.out.alloc _) (HO12.out.alloc _) hgrow (by decide))
          have HR13:=Lib.hid ((HRS12.out.below ((Below.refl _ _).alloc (Nat.le_refl _) (.cells #[.string x,.string y,.slice la lo.length lc,.slice ha zs.length hc,.bool true,.int .i64 kk] 44))).farE (by decide) (HO12.out.alloc _) hgrow)
          have hbw:Below w5.heap.size w5 (w14.alloc (.cells #[.string x,.string y,.slice la lo.length lc,.slice ha zs.length hc,.bool true,.int .i64 kk] 44)):=(HB.out.trans (HB12.out.mono HB.out.size)).alloc (HB.out.trans (HB12.out.mono HB.out.size)).size _
          have HB13:=Lib.hid (below_own hbw (HO12.out.alloc _) hgrow hbw.size (Nat.le_refl _))
          have HO13:=Lib.hid (show w17.ownsRow w5.heap.size 44 6 (.slice a' (S.length+1) cap') (S++[(⟨⟨⟨x,y⟩,lo,zs,true,kk⟩,.slice la lo.length lc,.slice ha zs.length hc⟩:MV)]).length ((S++[(⟨⟨⟨x,y⟩,lo,zs,true,kk⟩,.slice la lo.length lc,.slice ha zs.length hc⟩:MV)]).flatMap MV.cells) by rw [List.length_append,List.flatMap_append];exact hown')
          have HRR:=Lib.hid (HR13.out.snoc (x:=⟨⟨⟨x,y⟩,lo,zs,true,kk⟩,.slice la lo.length lc,.slice ha zs.length hc⟩) (own_mono HL13.out (Nat.zero_le _)) (own_mono HH13.out (Nat.zero_le _)))
          have HROW:=Lib.hid (show (⟨⟨x,y⟩,lo,zs,true,kk⟩:MR)=rowM ps es X ⟨x,y⟩ by unfold rowM;rw [← HLO.out,← HHI.out,← HOPX.out,HKK.out])
          clear hown' hgrow hbw cg fg zg
          go_wp2_with fail
          exact ⟨⟨m+1,S++[⟨⟨⟨x,y⟩,lo,zs,true,kk⟩,.slice la lo.length lc,.slice ha zs.length hc⟩],by omega,by go_num,Lib.hid (by rw [HF2.out,List.map_append,List.map_append,HE2.out,List.append_assoc];simp [HROW.out]),HB13,HO13,HRR,HN13⟩,by simp [intOf];omega⟩
         ·subst ho
          obtain ⟨cg,fg,zg⟩:=HGb.out
          go_upto_region 25 with fail
          clear cg fg zg
          have HKK:=Lib.hid (show kindM false lo zs=4 by rw [HKI.out];rw [if_neg (by decide)];rw [if_pos HZ0.out])
          obtain ⟨kk,hkk⟩:∃ q:Int,q=4:=⟨_,rfl⟩
          rw [← hkk] at HGb HKK
          have HG12:=HGb
          have HB12:=HBx
          clear hkk HGb HBx HKI
          have HO12:=Lib.hid (own_below HO.out HB12.out)
          have HRS12:=Lib.hid (HRS.out.below HB12.out)
          have HN12:=Lib.hid (own_below HN.out HB12.out)
          obtain ⟨cg,fg,zg⟩:=HG12.out
          go_wp2_with (at_builtin;refine halt_ ?_)
          unfold Halt_
          refine app_own Tryz.underlying35 mrr_info rfl (by decide) (by decide) rfl _ _ rfl w5.heap.size rfl (HO12.out.alloc _) [.string x,.string y,.slice la lo.length lc,.slice ha zs.length hc,.bool false,.int .i64 kk] rfl (heap_new1 _ _) rfl (mv_one (x:=⟨⟨⟨x,y⟩,lo,zs,false,kk⟩,.slice la lo.length lc,.slice ha zs.length hc⟩) rfl rfl) ?_ ?_ ?_
          ·omega
          ·have h1:=HB12.out.size;have h2:=HB.out.size;simp;omega
          intro a' cap' w17 hown' hgrow
          have HL13:=Lib.hid (own_far (HLv.out.alloc _) (HO12.out.alloc _) hgrow (by decide))
          have HH13:=Lib.hid (own_far (HHv.out.alloc _) (HO12.out.alloc _) hgrow (by decide))
          have HN13:=Lib.hid (own_far (HN12.out.alloc _) (HO12.out.alloc _) hgrow (by decide))
          have HR13:=Lib.hid ((HRS12.out.below ((Below.refl _ _).alloc (Nat.le_refl _) (.cells #[.string x,.string y,.slice la lo.length lc,.slice ha zs.length hc,.bool false,.int .i64 kk] 44))).farE (by decide) (HO12.out.alloc _) hgrow)
          have hbw:Below w5.heap.size w5 (w15.alloc (.cells #[.string x,.string y,.slice la lo.length lc,.slice ha zs.length hc,.bool false,.int .i64 kk] 44)):=(HB.out.trans (HB12.out.mono HB.out.size)).alloc (HB.out.trans (HB12.out.mono HB.out.size)).size _
          have HB13:=Lib.hid (below_own hbw (HO12.out.alloc _) hgrow hbw.size (Nat.le_refl _))
          have HO13:=Lib.hid (show w17.ownsRow w5.heap.size 44 6 (.slice a' (S.length+1) cap') (S++[(⟨⟨⟨x,y⟩,lo,zs,false,kk⟩,.slice la lo.length lc,.slice ha zs.length hc⟩:MV)]).length ((S++[(⟨⟨⟨x,y⟩,lo,zs,false,kk⟩,.slice la lo.length lc,.slice ha zs.length hc⟩:MV)]).flatMap MV.cells) by rw [List.length_append,List.flatMap_append];exact hown')
          have HRR:=Lib.hid (HR13.out.snoc (x:=⟨⟨⟨x,y⟩,lo,zs,false,kk⟩,.slice la lo.length lc,.slice ha zs.length hc⟩) (own_mono HL13.out (Nat.zero_le _)) (own_mono HH13.out (Nat.zero_le _)))
          have HROW:=Lib.hid (show (⟨⟨x,y⟩,lo,zs,false,kk⟩:MR)=rowM ps es X ⟨x,y⟩ by unfold rowM;rw [← HLO.out,← HHI.out,← HOPX.out,HKK.out])
          clear hown' hgrow hbw cg fg zg
          go_wp2_with fail
          exact ⟨⟨m+1,S++[⟨⟨⟨x,y⟩,lo,zs,false,kk⟩,.slice la lo.length lc,.slice ha zs.length hc⟩],by omega,by go_num,Lib.hid (by rw [HF2.out,List.map_append,List.map_append,HE2.out,List.append_assoc];simp [HROW.out]),HB13,HO13,HRR,HN13⟩,by simp [intOf];omega⟩
        ·have d0:((zs.length:Int) == 0)=false:=by rw [beq_eq_false_iff_ne];omega
         have HZ0:=Lib.hid h0
         clear h0
         obtain ⟨cg,fg,zg⟩:=HGb.out
         go_upto_region 23 with fail
         clear d0 cg fg zg
         rcases Bool.eq_false_or_eq_true op with ho | ho
         ·subst ho
          obtain ⟨cg,fg,zg⟩:=HGb.out
          go_upto_region 25 with fail
          have HGb:=Lib.hid (show Blk (w13.setCell ⟨G,5,none⟩ (.int .i64 3)) G #[.string x,.string y,.slice la lo.length lc,.slice ha zs.length hc,.bool true,.int .i64 3] from HGb.out.put (o:=5) (by simp))
          have HLv:=Lib.hid ((Kp.set (X:=fun b=>b=G) (w:=w13) (o:=5) (v:=.int .i64 3) rfl).own HLv.out (fun g hg e=>by have:=(HLv.out.lt g hg).1;omega))
          have HHv:=Lib.hid ((Kp.set (X:=fun b=>b=G) (w:=w13) (o:=5) (v:=.int .i64 3) rfl).own HHv.out (fun g hg e=>by have:=(HHv.out.lt g hg).1;omega))
          have HBx:=Lib.hid (below_put (o:=5) (v:=.int .i64 3) HBx.out (show wr2.heap.size≤G by have:=HGe.out;omega))
          obtain ⟨w14,hwn⟩:∃ V,V=w13.setCell ⟨G,5,none⟩ (.int .i64 3):=⟨_,rfl⟩
          rw [← hwn] at HGb HLv HHv HBx ⊢
          clear hwn cg fg zg
          have HKK:=Lib.hid (show kindM true lo zs=3 by rw [HKI.out];rw [if_pos rfl])
          obtain ⟨kk,hkk⟩:∃ q:Int,q=3:=⟨_,rfl⟩
          rw [← hkk] at HGb HKK
          have HG12:=HGb
          have HB12:=HBx
          clear hkk HGb HBx HKI
          have HO12:=Lib.hid (own_below HO.out HB12.out)
          have HRS12:=Lib.hid (HRS.out.below HB12.out)
          have HN12:=Lib.hid (own_below HN.out HB12.out)
          obtain ⟨cg,fg,zg⟩:=HG12.out
          go_wp2_with (at_builtin;refine halt_ ?_)
          unfold Halt_
          refine app_own Tryz.underlying35 mrr_info rfl (by decide) (by decide) rfl _ _ rfl w5.heap.size rfl (HO12.out.alloc _) [.string x,.string y,.slice la lo.length lc,.slice ha zs.length hc,.bool true,.int .i64 kk] rfl (heap_new1 _ _) rfl (mv_one (x:=⟨⟨⟨x,y⟩,lo,zs,true,kk⟩,.slice la lo.length lc,.slice ha zs.length hc⟩) rfl rfl) ?_ ?_ ?_
          ·omega
          ·have h1:=HB12.out.size;have h2:=HB.out.size;simp;omega
          intro a' cap' w17 hown' hgrow
          have HL13:=Lib.hid (own_far (HLv.out.alloc _) (HO12.out.alloc _) hgrow (by decide))
          have HH13:=Lib.hid (own_far (HHv.out.alloc _) (HO12.out.alloc _) hgrow (by decide))
          have HN13:=Lib.hid (own_far (HN12.out.alloc _) (HO12.out.alloc _) hgrow (by decide))
          have HR13:=Lib.hid ((HRS12.out.below ((Below.refl _ _).alloc (Nat.le_refl _) (.cells #[.string x,.string y,.slice la lo.length lc,.slice ha zs.length hc,.bool true,.int .i64 kk] 44))).farE (by decide) (HO12.out.alloc _) hgrow)
          have hbw:Below w5.heap.size w5 (w14.alloc (.cells #[.string x,.string y,.slice la lo.length lc,.slice ha zs.length hc,.bool true,.int .i64 kk] 44)):=(HB.out.trans (HB12.out.mono HB.out.size)).alloc (HB.out.trans (HB12.out.mono HB.out.size)).size _
          have HB13:=Lib.hid (below_own hbw (HO12.out.alloc _) hgrow hbw.size (Nat.le_refl _))
          have HO13:=Lib.hid (show w17.ownsRow w5.heap.size 44 6 (.slice a' (S.length+1) cap') (S++[(⟨⟨⟨x,y⟩,lo,zs,true,kk⟩,.slice la lo.length lc,.slice ha zs.length hc⟩:MV)]).length ((S++[(⟨⟨⟨x,y⟩,lo,zs,true,kk⟩,.slice la lo.length lc,.slice ha zs.length hc⟩:MV)]).flatMap MV.cells) by rw [List.length_append,List.flatMap_append];exact hown')
          have HRR:=Lib.hid (HR13.out.snoc (x:=⟨⟨⟨x,y⟩,lo,zs,true,kk⟩,.slice la lo.length lc,.slice ha zs.length hc⟩) (own_mono HL13.out (Nat.zero_le _)) (own_mono HH13.out (Nat.zero_le _)))
          have HROW:=Lib.hid (show (⟨⟨x,y⟩,lo,zs,true,kk⟩:MR)=rowM ps es X ⟨x,y⟩ by unfold rowM;rw [← HLO.out,← HHI.out,← HOPX.out,HKK.out])
          clear hown' hgrow hbw cg fg zg
          go_wp2_with fail
          exact ⟨⟨m+1,S++[⟨⟨⟨x,y⟩,lo,zs,true,kk⟩,.slice la lo.length lc,.slice ha zs.length hc⟩],by omega,by go_num,Lib.hid (by rw [HF2.out,List.map_append,List.map_append,HE2.out,List.append_assoc];simp [HROW.out]),HB13,HO13,HRR,HN13⟩,by simp [intOf];omega⟩
         ·subst ho
          obtain ⟨cg,fg,zg⟩:=HGb.out
          go_upto_region 25 with fail
          clear cg fg zg
          have HKK:=Lib.hid (show kindM false lo zs=1 by rw [HKI.out];rw [if_neg (by decide)];rw [if_neg HZ0.out];rw [if_pos HSS.out])
          obtain ⟨kk,hkk⟩:∃ q:Int,q=1:=⟨_,rfl⟩
          rw [← hkk] at HGb HKK
          have HG12:=HGb
          have HB12:=HBx
          clear hkk HGb HBx HKI
          have HO12:=Lib.hid (own_below HO.out HB12.out)
          have HRS12:=Lib.hid (HRS.out.below HB12.out)
          have HN12:=Lib.hid (own_below HN.out HB12.out)
          obtain ⟨cg,fg,zg⟩:=HG12.out
          go_wp2_with (at_builtin;refine halt_ ?_)
          unfold Halt_
          refine app_own Tryz.underlying35 mrr_info rfl (by decide) (by decide) rfl _ _ rfl w5.heap.size rfl (HO12.out.alloc _) [.string x,.string y,.slice la lo.length lc,.slice ha zs.length hc,.bool false,.int .i64 kk] rfl (heap_new1 _ _) rfl (mv_one (x:=⟨⟨⟨x,y⟩,lo,zs,false,kk⟩,.slice la lo.length lc,.slice ha zs.length hc⟩) rfl rfl) ?_ ?_ ?_
          ·omega
          ·have h1:=HB12.out.size;have h2:=HB.out.size;simp;omega
          intro a' cap' w17 hown' hgrow
          have HL13:=Lib.hid (own_far (HLv.out.alloc _) (HO12.out.alloc _) hgrow (by decide))
          have HH13:=Lib.hid (own_far (HHv.out.alloc _) (HO12.out.alloc _) hgrow (by decide))
          have HN13:=Lib.hid (own_far (HN12.out.alloc _) (HO12.out.alloc _) hgrow (by decide))
          have HR13:=Lib.hid ((HRS12.out.below ((Below.refl _ _).alloc (Nat.le_refl _) (.cells #[.string x,.string y,.slice la lo.length lc,.slice ha zs.length hc,.bool false,.int .i64 kk] 44))).farE (by decide) (HO12.out.alloc _) hgrow)
          have hbw:Below w5.heap.size w5 (w13.alloc (.cells #[.string x,.string y,.slice la lo.length lc,.slice ha zs.length hc,.bool false,.int .i64 kk] 44)):=(HB.out.trans (HB12.out.mono HB.out.size)).alloc (HB.out.trans (HB12.out.mono HB.out.size)).size _
          have HB13:=Lib.hid (below_own hbw (HO12.out.alloc _) hgrow hbw.size (Nat.le_refl _))
          have HO13:=Lib.hid (show w17.ownsRow w5.heap.size 44 6 (.slice a' (S.length+1) cap') (S++[(⟨⟨⟨x,y⟩,lo,zs,false,kk⟩,.slice la lo.length lc,.slice ha zs.length hc⟩:MV)]).length ((S++[(⟨⟨⟨x,y⟩,lo,zs,false,kk⟩,.slice la lo.length lc,.slice ha zs.length hc⟩:MV)]).flatMap MV.cells) by rw [List.length_append,List.flatMap_append];exact hown')
          have HRR:=Lib.hid (HR13.out.snoc (x:=⟨⟨⟨x,y⟩,lo,zs,false,kk⟩,.slice la lo.length lc,.slice ha zs.length hc⟩) (own_mono HL13.out (Nat.zero_le _)) (own_mono HH13.out (Nat.zero_le _)))
          have HROW:=Lib.hid (show (⟨⟨x,y⟩,lo,zs,false,kk⟩:MR)=rowM ps es X ⟨x,y⟩ by unfold rowM;rw [← HLO.out,← HHI.out,← HOPX.out,HKK.out])
          clear hown' hgrow hbw cg fg zg
          go_wp2_with fail
          exact ⟨⟨m+1,S++[⟨⟨⟨x,y⟩,lo,zs,false,kk⟩,.slice la lo.length lc,.slice ha zs.length hc⟩],by omega,by go_num,Lib.hid (by rw [HF2.out,List.map_append,List.map_append,HE2.out,List.append_assoc];simp [HROW.out]),HB13,HO13,HRR,HN13⟩,by simp [intOf];omega⟩
       ·rw [decide_eq_false hs]
        have HSS:=Lib.hid hs
        clear hs
        obtain ⟨cg,fg,zg⟩:=HGb.out
        go_upto_region 21 with fail
        clear cg fg zg
        by_cases h0:zs.length=0
        ·have d0:((zs.length:Int) == 0)=true:=by rw [h0];rfl
         have HZ0:=Lib.hid h0
         clear h0
         obtain ⟨cg,fg,zg⟩:=HGb.out
         go_upto_region 23 with fail
         clear d0
         have HGb:=Lib.hid (show Blk (w11.setCell ⟨G,5,none⟩ (.int .i64 4)) G #[.string x,.string y,.slice la lo.length lc,.slice ha zs.length hc,.bool op,.int .i64 4] from HGb.out.put (o:=5) (by simp))
         have HLv:=Lib.hid ((Kp.set (X:=fun b=>b=G) (w:=w11) (o:=5) (v:=.int .i64 4) rfl).own HLv.out (fun g hg e=>by have:=(HLv.out.lt g hg).1;omega))
         have HHv:=Lib.hid ((Kp.set (X:=fun b=>b=G) (w:=w11) (o:=5) (v:=.int .i64 4) rfl).own HHv.out (fun g hg e=>by have:=(HHv.out.lt g hg).1;omega))
         have HBx:=Lib.hid (below_put (o:=5) (v:=.int .i64 4) HBx.out (show wr2.heap.size≤G by have:=HGe.out;omega))
         obtain ⟨w15,hwn⟩:∃ V,V=w11.setCell ⟨G,5,none⟩ (.int .i64 4):=⟨_,rfl⟩
         rw [← hwn] at HGb HLv HHv HBx ⊢
         clear hwn cg fg zg
         rcases Bool.eq_false_or_eq_true op with ho | ho
         ·subst ho
          obtain ⟨cg,fg,zg⟩:=HGb.out
          go_upto_region 25 with fail
          have HGb:=Lib.hid (show Blk (w15.setCell ⟨G,5,none⟩ (.int .i64 3)) G #[.string x,.string y,.slice la lo.length lc,.slice ha zs.length hc,.bool true,.int .i64 3] from HGb.out.put (o:=5) (by simp))
          have HLv:=Lib.hid ((Kp.set (X:=fun b=>b=G) (w:=w15) (o:=5) (v:=.int .i64 3) rfl).own HLv.out (fun g hg e=>by have:=(HLv.out.lt g hg).1;omega))
          have HHv:=Lib.hid ((Kp.set (X:=fun b=>b=G) (w:=w15) (o:=5) (v:=.int .i64 3) rfl).own HHv.out (fun g hg e=>by have:=(HHv.out.lt g hg).1;omega))
          have HBx:=Lib.hid (below_put (o:=5) (v:=.int .i64 3) HBx.out (show wr2.heap.size≤G by have:=HGe.out;omega))
          obtain ⟨w14,hwn⟩:∃ V,V=w15.setCell ⟨G,5,none⟩ (.int .i64 3):=⟨_,rfl⟩
          rw [← hwn] at HGb HLv HHv HBx ⊢
          clear hwn cg fg zg
          have HKK:=Lib.hid (show kindM true lo zs=3 by rw [HKI.out];rw [if_pos rfl])
          obtain ⟨kk,hkk⟩:∃ q:Int,q=3:=⟨_,rfl⟩
          rw [← hkk] at HGb HKK
          have HG12:=HGb
          have HB12:=HBx
          clear hkk HGb HBx HKI
          have HO12:=Lib.hid (own_below HO.out HB12.out)
          have HRS12:=Lib.hid (HRS.out.below HB12.out)
          have HN12:=Lib.hid (own_below HN.out HB12.out)
          obtain ⟨cg,fg,zg⟩:=HG12.out
          go_wp2_with (at_builtin;refine halt_ ?_)
          unfold Halt_
          refine app_own Tryz.underlying35 mrr_info rfl (by decide) (by decide) rfl _ _ rfl w5.heap.size rfl (HO12.out.alloc _) [.string x,.string y,.slice la lo.length lc,.slice ha zs.length hc,.bool true,.int .i64 kk] rfl (heap_new1 _ _) rfl (mv_one (x:=⟨⟨⟨x,y⟩,lo,zs,true,kk⟩,.slice la lo.length lc,.slice ha zs.length hc⟩) rfl rfl) ?_ ?_ ?_
          ·omega
          ·have h1:=HB12.out.size;have h2:=HB.out.size;simp;omega
          intro a' cap' w17 hown' hgrow
          have HL13:=Lib.hid (own_far (HLv.out.alloc _) (HO12.out.alloc _) hgrow (by decide))
          have HH13:=Lib.hid (own_far (HHv.out.alloc _) (HO12.out.alloc _) hgrow (by decide))
          have HN13:=Lib.hid (own_far (HN12.out.alloc _) (HO12.out.alloc _) hgrow (by decide))
          have HR13:=Lib.hid ((HRS12.out.below ((Below.refl _ _).alloc (Nat.le_refl _) (.cells #[.string x,.string y,.slice la lo.length lc,.slice ha zs.length hc,.bool true,.int .i64 kk] 44))).farE (by decide) (HO12.out.alloc _) hgrow)
          have hbw:Below w5.heap.size w5 (w14.alloc (.cells #[.string x,.string y,.slice la lo.length lc,.slice ha zs.length hc,.bool true,.int .i64 kk] 44)):=(HB.out.trans (HB12.out.mono HB.out.size)).alloc (HB.out.trans (HB12.out.mono HB.out.size)).size _
          have HB13:=Lib.hid (below_own hbw (HO12.out.alloc _) hgrow hbw.size (Nat.le_refl _))
          have HO13:=Lib.hid (show w17.ownsRow w5.heap.size 44 6 (.slice a' (S.length+1) cap') (S++[(⟨⟨⟨x,y⟩,lo,zs,true,kk⟩,.slice la lo.length lc,.slice ha zs.length hc⟩:MV)]).length ((S++[(⟨⟨⟨x,y⟩,lo,zs,true,kk⟩,.slice la lo.length lc,.slice ha zs.length hc⟩:MV)]).flatMap MV.cells) by rw [List.length_append,List.flatMap_append];exact hown')
          have HRR:=Lib.hid (HR13.out.snoc (x:=⟨⟨⟨x,y⟩,lo,zs,true,kk⟩,.slice la lo.length lc,.slice ha zs.length hc⟩) (own_mono HL13.out (Nat.zero_le _)) (own_mono HH13.out (Nat.zero_le _)))
          have HROW:=Lib.hid (show (⟨⟨x,y⟩,lo,zs,true,kk⟩:MR)=rowM ps es X ⟨x,y⟩ by unfold rowM;rw [← HLO.out,← HHI.out,← HOPX.out,HKK.out])
          clear hown' hgrow hbw cg fg zg
          go_wp2_with fail
          exact ⟨⟨m+1,S++[⟨⟨⟨x,y⟩,lo,zs,true,kk⟩,.slice la lo.length lc,.slice ha zs.length hc⟩],by omega,by go_num,Lib.hid (by rw [HF2.out,List.map_append,List.map_append,HE2.out,List.append_assoc];simp [HROW.out]),HB13,HO13,HRR,HN13⟩,by simp [intOf];omega⟩
         ·subst ho
          obtain ⟨cg,fg,zg⟩:=HGb.out
          go_upto_region 25 with fail
          clear cg fg zg
          have HKK:=Lib.hid (show kindM false lo zs=4 by rw [HKI.out];rw [if_neg (by decide)];rw [if_pos HZ0.out])
          obtain ⟨kk,hkk⟩:∃ q:Int,q=4:=⟨_,rfl⟩
          rw [← hkk] at HGb HKK
          have HG12:=HGb
          have HB12:=HBx
          clear hkk HGb HBx HKI
          have HO12:=Lib.hid (own_below HO.out HB12.out)
          have HRS12:=Lib.hid (HRS.out.below HB12.out)
          have HN12:=Lib.hid (own_below HN.out HB12.out)
          obtain ⟨cg,fg,zg⟩:=HG12.out
          go_wp2_with (at_builtin;refine halt_ ?_)
          unfold Halt_
          refine app_own Tryz.underlying35 mrr_info rfl (by decide) (by decide) rfl _ _ rfl w5.heap.size rfl (HO12.out.alloc _) [.string x,.string y,.slice la lo.length lc,.slice ha zs.length hc,.bool false,.int .i64 kk] rfl (heap_new1 _ _) rfl (mv_one (x:=⟨⟨⟨x,y⟩,lo,zs,false,kk⟩,.slice la lo.length lc,.slice ha zs.length hc⟩) rfl rfl) ?_ ?_ ?_
          ·omega
          ·have h1:=HB12.out.size;have h2:=HB.out.size;simp;omega
          intro a' cap' w17 hown' hgrow
          have HL13:=Lib.hid (own_far (HLv.out.alloc _) (HO12.out.alloc _) hgrow (by decide))
          have HH13:=Lib.hid (own_far (HHv.out.alloc _) (HO12.out.alloc _) hgrow (by decide))
          have HN13:=Lib.hid (own_far (HN12.out.alloc _) (HO12.out.alloc _) hgrow (by decide))
          have HR13:=Lib.hid ((HRS12.out.below ((Below.refl _ _).alloc (Nat.le_refl _) (.cells #[.string x,.string y,.slice la lo.length lc,.slice ha zs.length hc,.bool false,.int .i64 kk] 44))).farE (by decide) (HO12.out.alloc _) hgrow)
          have hbw:Below w5.heap.size w5 (w15.alloc (.cells #[.string x,.string y,.slice la lo.length lc,.slice ha zs.length hc,.bool false,.int .i64 kk] 44)):=(HB.out.trans (HB12.out.mono HB.out.size)).alloc (HB.out.trans (HB12.out.mono HB.out.size)).size _
          have HB13:=Lib.hid (below_own hbw (HO12.out.alloc _) hgrow hbw.size (Nat.le_refl _))
          have HO13:=Lib.hid (show w17.ownsRow w5.heap.size 44 6 (.slice a' (S.length+1) cap') (S++[(⟨⟨⟨x,y⟩,lo,zs,false,kk⟩,.slice la lo.length lc,.slice ha zs.length hc⟩:MV)]).length ((S++[(⟨⟨⟨x,y⟩,lo,zs,false,kk⟩,.slice la lo.length lc,.slice ha zs.length hc⟩:MV)]).flatMap MV.cells) by rw [List.length_append,List.flatMap_append];exact hown')
          have HRR:=Lib.hid (HR13.out.snoc (x:=⟨⟨⟨x,y⟩,lo,zs,false,kk⟩,.slice la lo.length lc,.slice ha zs.length hc⟩) (own_mono HL13.out (Nat.zero_le _)) (own_mono HH13.out (Nat.zero_le _)))
          have HROW:=Lib.hid (show (⟨⟨x,y⟩,lo,zs,false,kk⟩:MR)=rowM ps es X ⟨x,y⟩ by unfold rowM;rw [← HLO.out,← HHI.out,← HOPX.out,HKK.out])
          clear hown' hgrow hbw cg fg zg
          go_wp2_with fail
          exact ⟨⟨m+1,S++[⟨⟨⟨x,y⟩,lo,zs,false,kk⟩,.slice la lo.length lc,.slice ha zs.length hc⟩],by omega,by go_num,Lib.hid (by rw [HF2.out,List.map_append,List.map_append,HE2.out,List.append_assoc];simp [HROW.out]),HB13,HO13,HRR,HN13⟩,by simp [intOf];omega⟩
        ·have d0:((zs.length:Int) == 0)=false:=by rw [beq_eq_false_iff_ne];omega
         have HZ0:=Lib.hid h0
         clear h0
         obtain ⟨cg,fg,zg⟩:=HGb.out
         go_upto_region 23 with fail
         clear d0 cg fg zg
         rcases Bool.eq_false_or_eq_true op with ho | ho
         ·subst ho
          obtain ⟨cg,fg,zg⟩:=HGb.out
          go_upto_region 25 with fail
          have HGb:=Lib.hid (show Blk (w11.setCell ⟨G,5,none⟩ (.int .i64 3)) G #[.string x,.string y,.slice la lo.length lc,.slice ha zs.length hc,.bool true,.int .i64 3] from HGb.out.put (o:=5) (by simp))
          have HLv:=Lib.hid ((Kp.set (X:=fun b=>b=G) (w:=w11) (o:=5) (v:=.int .i64 3) rfl).own HLv.out (fun g hg e=>by have:=(HLv.out.lt g hg).1;omega))
          have HHv:=Lib.hid ((Kp.set (X:=fun b=>b=G) (w:=w11) (o:=5) (v:=.int .i64 3) rfl).own HHv.out (fun g hg e=>by have:=(HHv.out.lt g hg).1;omega))
          have HBx:=Lib.hid (below_put (o:=5) (v:=.int .i64 3) HBx.out (show wr2.heap.size≤G by have:=HGe.out;omega))
          obtain ⟨w14,hwn⟩:∃ V,V=w11.setCell ⟨G,5,none⟩ (.int .i64 3):=⟨_,rfl⟩
          rw [← hwn] at HGb HLv HHv HBx ⊢
          clear hwn cg fg zg
          have HKK:=Lib.hid (show kindM true lo zs=3 by rw [HKI.out];rw [if_pos rfl])
          obtain ⟨kk,hkk⟩:∃ q:Int,q=3:=⟨_,rfl⟩
          rw [← hkk] at HGb HKK
          have HG12:=HGb
          have HB12:=HBx
          clear hkk HGb HBx HKI
          have HO12:=Lib.hid (own_below HO.out HB12.out)
          have HRS12:=Lib.hid (HRS.out.below HB12.out)
          have HN12:=Lib.hid (own_below HN.out HB12.out)
          obtain ⟨cg,fg,zg⟩:=HG12.out
          go_wp2_with (at_builtin;refine halt_ ?_)
          unfold Halt_
          refine app_own Tryz.underlying35 mrr_info rfl (by decide) (by decide) rfl _ _ rfl w5.heap.size rfl (HO12.out.alloc _) [.string x,.string y,.slice la lo.length lc,.slice ha zs.length hc,.bool true,.int .i64 kk] rfl (heap_new1 _ _) rfl (mv_one (x:=⟨⟨⟨x,y⟩,lo,zs,true,kk⟩,.slice la lo.length lc,.slice ha zs.length hc⟩) rfl rfl) ?_ ?_ ?_
          ·omega
          ·have h1:=HB12.out.size;have h2:=HB.out.size;simp;omega
          intro a' cap' w17 hown' hgrow
          have HL13:=Lib.hid (own_far (HLv.out.alloc _) (HO12.out.alloc _) hgrow (by decide))
          have HH13:=Lib.hid (own_far (HHv.out.alloc _) (HO12.out.alloc _) hgrow (by decide))
          have HN13:=Lib.hid (own_far (HN12.out.alloc _) (HO12.out.alloc _) hgrow (by decide))
          have HR13:=Lib.hid ((HRS12.out.below ((Below.refl _ _).alloc (Nat.le_refl _) (.cells #[.string x,.string y,.slice la lo.length lc,.slice ha zs.length hc,.bool true,.int .i64 kk] 44))).farE (by decide) (HO12.out.alloc _) hgrow)
          have hbw:Below w5.heap.size w5 (w14.alloc (.cells #[.string x,.string y,.slice la lo.length lc,.slice ha zs.length hc,.bool true,.int .i64 kk] 44)):=(HB.out.trans (HB12.out.mono HB.out.size)).alloc (HB.out.trans (HB12.out.mono HB.out.size)).size _
          have HB13:=Lib.hid (below_own hbw (HO12.out.alloc _) hgrow hbw.size (Nat.le_refl _))
          have HO13:=Lib.hid (show w17.ownsRow w5.heap.size 44 6 (.slice a' (S.length+1) cap') (S++[(⟨⟨⟨x,y⟩,lo,zs,true,kk⟩,.slice la lo.length lc,.slice ha zs.length hc⟩:MV)]).length ((S++[(⟨⟨⟨x,y⟩,lo,zs,true,kk⟩,.slice la lo.length lc,.slice ha zs.length hc⟩:MV)]).flatMap MV.cells) by rw [List.length_append,List.flatMap_append];exact hown')
          have HRR:=Lib.hid (HR13.out.snoc (x:=⟨⟨⟨x,y⟩,lo,zs,true,kk⟩,.slice la lo.length lc,.slice ha zs.length hc⟩) (own_mono HL13.out (Nat.zero_le _)) (own_mono HH13.out (Nat.zero_le _)))
          have HROW:=Lib.hid (show (⟨⟨x,y⟩,lo,zs,true,kk⟩:MR)=rowM ps es X ⟨x,y⟩ by unfold rowM;rw [← HLO.out,← HHI.out,← HOPX.out,HKK.out])
          clear hown' hgrow hbw cg fg zg
          go_wp2_with fail
          exact ⟨⟨m+1,S++[⟨⟨⟨x,y⟩,lo,zs,true,kk⟩,.slice la lo.length lc,.slice ha zs.length hc⟩],by omega,by go_num,Lib.hid (by rw [HF2.out,List.map_append,List.map_append,HE2.out,List.append_assoc];simp [HROW.out]),HB13,HO13,HRR,HN13⟩,by simp [intOf];omega⟩
         ·subst ho
          obtain ⟨cg,fg,zg⟩:=HGb.out
          go_upto_region 25 with fail
          clear cg fg zg
          have HKK:=Lib.hid (show kindM false lo zs=2 by rw [HKI.out];rw [if_neg (by decide)];rw [if_neg HZ0.out];rw [if_neg HSS.out])
          obtain ⟨kk,hkk⟩:∃ q:Int,q=2:=⟨_,rfl⟩
          rw [← hkk] at HGb HKK
          have HG12:=HGb
          have HB12:=HBx
          clear hkk HGb HBx HKI
          have HO12:=Lib.hid (own_below HO.out HB12.out)
          have HRS12:=Lib.hid (HRS.out.below HB12.out)
          have HN12:=Lib.hid (own_below HN.out HB12.out)
          obtain ⟨cg,fg,zg⟩:=HG12.out
          go_wp2_with (at_builtin;refine halt_ ?_)
          unfold Halt_
          refine app_own Tryz.underlying35 mrr_info rfl (by decide) (by decide) rfl _ _ rfl w5.heap.size rfl (HO12.out.alloc _) [.string x,.string y,.slice la lo.length lc,.slice ha zs.length hc,.bool false,.int .i64 kk] rfl (heap_new1 _ _) rfl (mv_one (x:=⟨⟨⟨x,y⟩,lo,zs,false,kk⟩,.slice la lo.length lc,.slice ha zs.length hc⟩) rfl rfl) ?_ ?_ ?_
          ·omega
          ·have h1:=HB12.out.size;have h2:=HB.out.size;simp;omega
          intro a' cap' w17 hown' hgrow
          have HL13:=Lib.hid (own_far (HLv.out.alloc _) (HO12.out.alloc _) hgrow (by decide))
          have HH13:=Lib.hid (own_far (HHv.out.alloc _) (HO12.out.alloc _) hgrow (by decide))
          have HN13:=Lib.hid (own_far (HN12.out.alloc _) (HO12.out.alloc _) hgrow (by decide))
          have HR13:=Lib.hid ((HRS12.out.below ((Below.refl _ _).alloc (Nat.le_refl _) (.cells #[.string x,.string y,.slice la lo.length lc,.slice ha zs.length hc,.bool false,.int .i64 kk] 44))).farE (by decide) (HO12.out.alloc _) hgrow)
          have hbw:Below w5.heap.size w5 (w11.alloc (.cells #[.string x,.string y,.slice la lo.length lc,.slice ha zs.length hc,.bool false,.int .i64 kk] 44)):=(HB.out.trans (HB12.out.mono HB.out.size)).alloc (HB.out.trans (HB12.out.mono HB.out.size)).size _
          have HB13:=Lib.hid (below_own hbw (HO12.out.alloc _) hgrow hbw.size (Nat.le_refl _))
          have HO13:=Lib.hid (show w17.ownsRow w5.heap.size 44 6 (.slice a' (S.length+1) cap') (S++[(⟨⟨⟨x,y⟩,lo,zs,false,kk⟩,.slice la lo.length lc,.slice ha zs.length hc⟩:MV)]).length ((S++[(⟨⟨⟨x,y⟩,lo,zs,false,kk⟩,.slice la lo.length lc,.slice ha zs.length hc⟩:MV)]).flatMap MV.cells) by rw [List.length_append,List.flatMap_append];exact hown')
          have HRR:=Lib.hid (HR13.out.snoc (x:=⟨⟨⟨x,y⟩,lo,zs,false,kk⟩,.slice la lo.length lc,.slice ha zs.length hc⟩) (own_mono HL13.out (Nat.zero_le _)) (own_mono HH13.out (Nat.zero_le _)))
          have HROW:=Lib.hid (show (⟨⟨x,y⟩,lo,zs,false,kk⟩:MR)=rowM ps es X ⟨x,y⟩ by unfold rowM;rw [← HLO.out,← HHI.out,← HOPX.out,HKK.out])
          clear hown' hgrow hbw cg fg zg
          go_wp2_with fail
          exact ⟨⟨m+1,S++[⟨⟨⟨x,y⟩,lo,zs,false,kk⟩,.slice la lo.length lc,.slice ha zs.length hc⟩],by omega,by go_num,Lib.hid (by rw [HF2.out,List.map_append,List.map_append,HE2.out,List.append_assoc];simp [HROW.out]),HB13,HO13,HRR,HN13⟩,by simp [intOf];omega⟩

    ·have HES2:=Lib.hid (show S.map MV.s=(allR (PS.take (k+1)) NS).map (rowM ps es X) by rw [HE2.out,HE.out,HF.out,List.map_append,List.take_of_length_le (show NS.length≤m by omega)])
     go_wp2_with fail
     exact ⟨⟨k+1,S,by omega,by go_num,HES2,HB,HO,HRS⟩,by simp [intOf];omega⟩
  ·have HES:=Lib.hid (show R.map MV.s=(allR PS NS).map (rowM ps es X) by rw [HE.out,List.take_of_length_le (show PS.length≤k by omega)])
   have HS:=Lib.hid (Sl.of_own HO.out)
   have HTr:=Lib.hid (HT.out.later HB.out)
   go_wp2
   go_ret
   exact ⟨_,ps,es,R,rfl,HLE1.out,HLE2.out,HS.out,HR.out,HES.out,HTr.out.low⟩
end
end
section
open Go.RowKit Go.Shelf

theorem sb_size:(Tryz.prog.info? 197).map (·.size)=some 2:=by kernel_rfl
theorem sb_lies:liesAt Tryz.prog Tryz.prog.depth 197 (2 / Tryz.prog.cellsOf 197) 0 197 1=true:=by kernel_rfl
theorem sb_byte:(Tryz.prog.info? 5).map (fun i=>(i.zero,i.size,i.bytes))=some (some (.int .u8 0),1,1):=by kernel_rfl

set_option maxRecDepth 100000 in
set_option maxHeartbeats 1000000 in
theorem sb_copyCheck_used (b:Nat) (w:World) (h0:w.cell? ⟨b,0,none⟩=some (.pointer (some ⟨b,0,none⟩))) :
  Calls Tryz.prog 239 #[.pointer (some ⟨b,0,none⟩)] w fun e w'=>e=.returned (.tuple #[])∧w'=w:=by
 obtain ⟨j,hj,_⟩:=Option.map_eq_some_iff.1 sb_size
 go_enter Tryz.func239,Tryz.ntmps239
 go_wp2
 rw [Lib.run_neq_ptr_same w _ Tryz.underlying194 hj]
 go_wp2
 go_end0
 exact ⟨rfl,rfl⟩

set_option maxRecDepth 100000 in
set_option maxHeartbeats 1000000 in
theorem sb_copyCheck_fresh (b:Nat) (w:World) (h0:w.cell? ⟨b,0,none⟩=some (.pointer none)) (hsh:w.shape? b=some (197,2)) (hfz:w.frozen? ⟨b,0,none⟩=false) :
  Calls Tryz.prog 239 #[.pointer (some ⟨b,0,none⟩)] w fun e w'=>e=.returned (.tuple #[])∧w'=w.setCell ⟨b,0,none⟩ (.pointer (some ⟨b,0,none⟩)):=by
 obtain ⟨j,hj,hjs⟩:=Option.map_eq_some_iff.1 sb_size
 go_enter Tryz.func239,Tryz.ntmps239
 go_wp2
 rw [Lib.run_to_unsafe w ⟨b,0,none⟩ Tryz.underlying194 Tryz.underlying295 hj (by rw [hjs];decide) hsh (Nat.zero_lt_succ 1)]
 simp only [Result.andThen]
 rw [Oper.upon_value]
 go_wp2
 rw [run_callFunc_extern Tryz.func283 (by kernel_rfl) (by kernel_rfl) (by kernel_rfl) (e:=Extern.AbiNoEscape.same) (by kernel_rfl)]
 rw [Lib.run_noEscape]
 simp only [Result.andThen]
 rw [Oper.upon_value]
 go_wp2
 rw [Lib.run_from_unsafe w ⟨b,0,none⟩ Tryz.underlying295 Tryz.underlying194 hj hsh sb_lies]
 simp only [Result.andThen]
 rw [Oper.upon_value]
 go_wp2
 go_end0
 exact ⟨rfl,rfl⟩

abbrev SbAt (B b:Nat) (l:List UInt8) (w:World):Prop:=Lib.IsBuilderF 197 5 B b (Lib.byteCells l) w

theorem sb_copyCheck (B b:Nat) (bs:List Value) (w:World) (h:Lib.IsBuilderF 197 5 B b bs w) :
  Calls Tryz.prog 239 #[.pointer (some ⟨b,0,none⟩)] w fun e w'=>e=.returned (.tuple #[])∧(Lib.BuilderAtF 197 5 B b (.pointer (some ⟨b,0,none⟩)) bs w'∧Below B w w'∧Lib.OthersKept 5 (some b) w w'):=by
 rcases h with h | h
 ·refine (sb_copyCheck_fresh b w h.cell0 h.shape h.frozen0).mono ?_
  rintro e w' ⟨rfl,rfl⟩
  exact ⟨rfl,h.used _,(Below.refl B w).setCell (p:=⟨b,0,none⟩) h.1 _,(Lib.OthersKept.refl _ _ w).setCell ⟨b,0,none⟩ rfl _⟩
 ·refine (sb_copyCheck_used b w h.cell0).mono ?_
  rintro e w' ⟨rfl,rfl⟩
  exact ⟨rfl,h,Below.refl B _,Lib.OthersKept.refl _ _ _⟩

theorem strCells_eq (s:ByteArray):Lib.strCells s=Lib.byteCells (bl s):=rfl

set_option maxHeartbeats 2000000 in
set_option maxRecDepth 100000 in
theorem sb_WriteString (B b:Nat) (l:List UInt8) (s:ByteArray) (w:World) (h:SbAt B b l w) (hlen:l.length+s.size≤140737488355328) (hBw:B≤w.heap.size) :
  Calls Tryz.prog 169 #[.pointer (some ⟨b,0,none⟩),.string s] w fun e w'=>e=.returned (.tuple #[.int .i64 s.size,.nilIface])∧(SbAt B b (l++bl s) w'∧Below B w w'∧Lib.OthersKept 5 (some b) w w'):=by
 obtain ⟨i0,hi,hz0,hz1,hz2⟩:=info_parts sb_byte
 have hlen':(Lib.byteCells l).length+s.size≤140737488355328:=by simpa [Lib.byteCells] using hlen
 have H:=Lib.hid h
 have HL:=Lib.hid hlen'
 clear h hlen hlen'
 go_enter Tryz.func169,Tryz.ntmps169
 go_wp2_with (go_at_call 239;refine (sb_copyCheck B b _ _ H.out).mono ?_)
 rintro e w1 ⟨rfl,h1,hb1,hk1⟩
 obtain ⟨hB,v,hbk,hown,hne⟩:=h1
 have c0:w1.cell? ⟨b,0,none⟩=some (.pointer (some ⟨b,0,none⟩)):=by rw [Lib.cell_of_heap hbk];rfl
 have c1:w1.cell? ⟨b,1,none⟩=some v:=by rw [Lib.cell_of_heap hbk];rfl
 go_wp2_with (at_builtin;refine Lib.wpList_append_own_stringF _ rfl _ _ 195 9 rfl B 5 i0 Tryz.underlying195 Tryz.underlying9 hi hz0 hz1 hz2 _ _ _ rfl hown s rfl ?c3 ?c4 ?c5 ?_)
 case c3=>have:=HL.out;unfold maxLen;omega
 case c4=>exact HL.out
 case c5=>have:=hb1.size;omega
 intro v' w2 hown' hgrow _
 have hlt:b < w1.heap.size:=by
  rcases Nat.lt_or_ge b w1.heap.size with h' | h'
  ·exact h'
  ·simp [Array.getElem?_eq_none h'] at hbk
 have hb2:w2.heap[b]? = some (.cells #[.pointer (some ⟨b,0,none⟩),v] 197 (0,0)):=by
  rw [hgrow.block b hlt (fun e=>hne e.symm)]
  exact hbk
 have d0:w2.cell? ⟨b,0,none⟩=some (.pointer (some ⟨b,0,none⟩)):=by rw [Lib.cell_of_heap hb2];rfl
 have d1:w2.cell? ⟨b,1,none⟩=some v:=by rw [Lib.cell_of_heap hb2];rfl
 have f1:w2.frozen? ⟨b,1,none⟩=false:=Lib.frozen_of_heap hb2 1
 obtain ⟨ao,n',cap,rfl⟩:∃ ao n' cap,v'=.slice ao n' cap:=by
  rcases hown'.2 with ⟨hv,_⟩ | ⟨g,cap,cur,fz,hv,_⟩
  ·exact ⟨_,_,_,hv⟩
  ·exact ⟨_,_,_,hv⟩
 go_wp2
 go_ret2
 refine ⟨rfl,?_,?_,(hk1.grown hgrow (Lib.ownsRowF_kind hown)).setCell ⟨b,1,none⟩ rfl _⟩
 ·have e1:Lib.byteCells (l++bl s)=Lib.byteCells l++Lib.strCells s:=by rw [strCells_eq];simp [Lib.byteCells]
  unfold SbAt
  rw [e1]
  exact .inr (Lib.BuilderAtF.put (T:=197) (e:=5) hB hb2 (bs':=Lib.byteCells l++Lib.strCells s) (by simpa [Lib.strCells_length] using hown') (by decide))
 ·exact (hb1.grown hgrow (by have:=hb1.size;omega) (fun k hk=>(hown.lt k hk).1)).setCell (p:=⟨b,1,none⟩) hB _
end
section
open Go.RowKit Go.Shelf

set_option maxHeartbeats 2000000 in
set_option maxRecDepth 1000000 in
theorem sb_grow_fresh (B b n:Nat) (w:World) (hB:B≤b) (hbk:w.heap[b]? = some (.cells #[.pointer (some ⟨b,0,none⟩),.slice none 0 0] 197 (0,0))) (hBw:B≤w.heap.size) (hn:n≤281474976710656) :
  Calls Tryz.prog 240 #[.pointer (some ⟨b,0,none⟩),.int .i64 n] w fun e w'=>e=.returned (.tuple #[])∧(Lib.BuilderAt 197 5 B b (.pointer (some ⟨b,0,none⟩)) [] w'∧Below B w w'):=by
 obtain ⟨i0,hi,hz0,hz1,hz2⟩:=info_parts sb_byte
 obtain ⟨cs,hrun,hle,hmax⟩:=Lib.run_makeNoZero (P:=Tryz.prog) w.drew #[3] 195 5 Tryz.underlying195 n hn
 have hw:IntKind.i64.wrap (IntKind.i64.wrap 0+(n:Int))=n:=by
  rw [IntKind.wrap_i64,IntKind.wrap_i64]
  omega
 have hcall:(callFunc 284 #[.int .i64 (IntKind.i64.wrap (IntKind.i64.wrap 0+(n:Int)))]).run Tryz.prog w.drew=.ok (.value (.slice (some ⟨w.drew.heap.size,0,none⟩) n cs.size)) (w.drew.drew.drew.alloc (.cells cs 5)):=by
  rw [hw,run_callFunc_extern Tryz.func284 (by kernel_rfl) (by kernel_rfl) (by kernel_rfl) (e:=Extern.BytealgMakeNoZero.makeNoZero #[3] #[195]) (by kernel_rfl),hrun]
  rfl
 have c1:w.drew.cell? ⟨b,1,none⟩=some (.slice none 0 0):=by
  have:w.drew.heap[b]? = _:=hbk
  rw [Lib.cell_of_heap this];rfl
 have c2:(w.alloc (.cells cs 5)).cell? ⟨b,1,none⟩=some (.slice none 0 0):=by
  have hlt:b < w.heap.size:=by
   rcases Nat.lt_or_ge b w.heap.size with h' | h'
   ·exact h'
   ·simp [Array.getElem?_eq_none h'] at hbk
  have:(w.alloc (.cells cs 5)).heap[b]? = _:=(Lib.alloc_old w _ b hlt).trans hbk
  rw [Lib.cell_of_heap this];rfl
 have f2:(w.alloc (.cells cs 5)).frozen? ⟨b,1,none⟩=false:=by
  have hlt:b < w.heap.size:=by
   rcases Nat.lt_or_ge b w.heap.size with h' | h'
   ·exact h'
   ·simp [Array.getElem?_eq_none h'] at hbk
  exact Lib.frozen_of_heap ((Lib.alloc_old w _ b hlt).trans hbk) 1
 have hcopy:∀ W:World,(Builtin.copy_ #[195,195] 3 #[.slice (some ⟨w.heap.size,0,none⟩) 0 cs.size,.slice none 0 0]).run Tryz.prog W=.ok (goInt 0) W :=
  fun W=>run_copy_none W 195 195 3 5 _ _ 0 cs.size 0 0 Tryz.underlying195 (by rw [hi];exact congrArg some hz1) rfl
 clear hw
 go_enter Tryz.func240,Tryz.ntmps240
 go_wp2
 have hfin:=Lib.grown_fresh (T:=197) (e:=5) (cs:=cs) hB hbk hBw (hmax (by unfold maxLen;omega)) (by decide)
 go_region
 all_goals (go_wp2;go_end0;exact ⟨rfl,hfin⟩)

set_option maxHeartbeats 2000000 in
set_option maxRecDepth 1000000 in
theorem sb_Grow_fresh (B b n:Nat) (w:World) (hB:B≤b) (hbk:w.heap[b]? = some (.cells #[.pointer none,.slice none 0 0] 197 (0,0))) (hBw:B≤w.heap.size) (hn:n≤281474976710656) :
  Calls Tryz.prog 168 #[.pointer (some ⟨b,0,none⟩),.int .i64 n] w fun e w'=>e=.returned (.tuple #[])∧(Lib.BuilderAt 197 5 B b (.pointer (some ⟨b,0,none⟩)) [] w'∧Below B w w'):=by
 have hbk1:(w.setCell ⟨b,0,none⟩ (.pointer (some ⟨b,0,none⟩))).heap[b]? = some (.cells #[.pointer (some ⟨b,0,none⟩),.slice none 0 0] 197 (0,0)):=by
  simp [World.setCell,Array.getElem?_modify,hbk]
 have c1:(w.setCell ⟨b,0,none⟩ (.pointer (some ⟨b,0,none⟩))).cell? ⟨b,1,none⟩=some (.slice none 0 0):=by rw [Lib.cell_of_heap hbk1];rfl
 have hb1:Below B w (w.setCell ⟨b,0,none⟩ (.pointer (some ⟨b,0,none⟩))):=(Below.refl B w).setCell (p:=⟨b,0,none⟩) hB _
 go_enter Tryz.func168,Tryz.ntmps168
 have hU:Lib.BuilderAt 197 5 B b (.pointer (some ⟨b,0,none⟩)) [] (w.setCell ⟨b,0,none⟩ (.pointer (some ⟨b,0,none⟩))):=⟨hB,.slice none 0 0,hbk1,World.ownsRow_nil _ _ _ _,by simp [Value.ownBlock]⟩
 have c1':(w.setCell ⟨b,0,none⟩ (.pointer (some ⟨b,0,none⟩))).drew.cell? ⟨b,1,none⟩=some (.slice none 0 0):=c1
 go_wp2_with (go_at_call 239;refine (sb_copyCheck_fresh b w (by rw [Lib.cell_of_heap hbk];rfl) (by simp [World.shape?,hbk]) (Lib.frozen_of_heap hbk 0)).mono ?_;rintro e w' ⟨rfl,rfl⟩)
 go_region
 all_goals go_wp2_with (go_at_call 240;refine (sb_grow_fresh B b n (w.setCell ⟨b,0,none⟩ (.pointer (some ⟨b,0,none⟩))).drew hB hbk1 (by simpa [World.setCell,World.drew,-World.drew_eq] using hBw) hn).mono ?_;rintro e w' ⟨rfl,h1,h2⟩)
 all_goals first
  | (go_end0;exact ⟨rfl,h1,hb1.drew.trans h2⟩)
  | (go_end0;exact ⟨rfl,hU.drew,hb1.drew⟩)

def joinB (xs:List ByteArray) (sep:ByteArray):ByteArray:=⟨(Lib.join (xs.map bl) (bl sep)).toArray⟩
set_option maxRecDepth 100000 in
set_option maxHeartbeats 1000000 in
theorem str_Join_none (a:Option Addr) (c:Nat) (sep:ByteArray) (w:World) :
  Calls Tryz.prog 90 #[.slice a 0 c,.string sep] w fun e w'=>e=.returned (.string ⟨#[]⟩)∧w'=w:=by
 go_enter Tryz.func90,Tryz.ntmps90
 go_wp2
 go_ret
 exact ⟨rfl,rfl⟩
set_option maxRecDepth 100000 in
set_option maxHeartbeats 1000000 in
theorem str_Join_one (bk o c:Nat) (x sep:ByteArray) (w:World) (hc:w.cell? ⟨bk,o,none⟩=some (.string x)) :
  Calls Tryz.prog 90 #[.slice (some ⟨bk,o,none⟩) 1 c,.string sep] w fun e w'=>e=.returned (.string x)∧w'=w:=by
 go_enter Tryz.func90,Tryz.ntmps90
 go_wp2
 go_ret
 exact ⟨rfl,rfl⟩
set_option maxHeartbeats 8000000 in
set_option maxRecDepth 100000 in
theorem str_Join_many (bk o c:Nat) (xs:List ByteArray) (sep:ByteArray) (w:World)
  (hcells:∀ (j:Nat) x,xs[j]? = some x→w.cell? ⟨bk,o+j,none⟩=some (.string x))
  (hbk:bk < w.heap.size) (h2:2≤xs.length) (hN:xs.length≤140737488355328) (hcap:xs.length≤c)
  (hlen:(Lib.join (xs.map (·.data.toList)) sep.data.toList).length≤140737488355328) :
  Calls Tryz.prog 90 #[.slice (some ⟨bk,o,none⟩) xs.length c,.string sep] w fun e w'=>e=.returned (.string ⟨(Lib.join (xs.map (·.data.toList)) sep.data.toList).toArray⟩)∧Below w.heap.size w w':=by
 have HC:=Any.hidJ hcells
 clear hcells
 obtain ⟨x0,r,hxs⟩:∃ x0 r,xs=x0 :: r:=by
  cases xs with
  | nil=>simp at h2
  | cons a t=>exact ⟨a,t,rfl⟩
 have hjl:sep.size * (xs.length - 1)+Lib.lens (xs.map (·.data.toList))≤140737488355328:=by
  have:=Lib.join_length x0.data.toList (r.map (·.data.toList)) sep.data.toList
  rw [hxs] at hlen ⊢
  simp only [List.map_cons] at hlen ⊢
  rw [this,List.length_map] at hlen
  rw [Lib.size_eq,List.length_cons,Nat.add_sub_cancel]
  exact hlen
 have hmul:sep.size * (xs.length - 1)≤140737488355328:=by omega
 generalize hM:sep.size * (xs.length - 1)=M at hjl hmul
 have hcast:((xs.length:Int) - 1)=((xs.length - 1:Nat):Int):=by omega
 have hlt:sep.size < 9223372036854775807 / (xs.length - 1):=by
  have:sep.size+1≤9223372036854775807 / (xs.length - 1):=by
   rw [Nat.le_div_iff_mul_le (by omega),Nat.add_mul,hM]
   omega
  omega
 have hdv:¬ (9223372036854775807 / ((xs.length:Int) - 1)≤(sep.size:Int)):=by
  have e:(9223372036854775807:Int) / ((xs.length - 1:Nat):Int)=((9223372036854775807 / (xs.length - 1):Nat):Int):=IntWalk.up_div (x:=9223372036854775807) rfl rfl
  rw [hcast,e]
  generalize 9223372036854775807 / (xs.length - 1)=q at hlt
  omega
 have hprod:wrap64 ((sep.size:Int) * ((xs.length:Int) - 1))=(M:Int):=by
  have e:(sep.size:Int) * ((xs.length - 1:Nat):Int)=((sep.size * (xs.length - 1):Nat):Int):=IntWalk.up_mul rfl rfl
  rw [hcast,e,hM]
  exact IntWalk.wrap64_in _ ⟨by omega,by omega⟩
 have hM0:sep.size=0→M=0:=fun h=>by rw [← hM,h,Nat.zero_mul]
 clear hlt hcast
 have hne0:((xs.length:Int) == 0)=false:=beq_eq_false_iff_ne.2 (by omega)
 have hne1:((xs.length:Int) == 1)=false:=beq_eq_false_iff_ne.2 (by omega)
 have Hxs:=Any.hidJ hxs
 have Hlen:=Any.hidJ hlen
 clear hxs hlen
 go_enter Tryz.func90,Tryz.ntmps90
 go_wp2_with fail
 all_goals (
  go_loop [5,41] (fun n i => ∃ k:Nat,k≤xs.length∧i=.int .i64 k∧n=.int .i64 ((M+Lib.lens ((xs.map (·.data.toList)).take k):Nat):Int)) (fun _ i=>xs.length - (intOf i).toNat)
  case atStart=>exact ⟨0,Nat.zero_le _,rfl,by first | (simp [Lib.lens];done) | (have:=hM0 (by omega);simp [Lib.lens,this])⟩
  case round =>
   obtain ⟨k,hk,rfl,rfl⟩:=hrel
   by_cases hkn:k < xs.length
   ·obtain ⟨x,hx⟩:∃ x,xs[k]? = some x:=⟨xs[k],List.getElem?_eq_getElem hkn⟩
    have hc:=HC.out k x hx
    have hstep:=Lib.lens_take_succ (xs.map (·.data.toList)) k x.data.toList (by simp [hx])
    have hbound:Lib.lens ((xs.map (·.data.toList)).take (k+1))≤Lib.lens (xs.map (·.data.toList)):=Lib.lens_take_le _ _
    rw [← Lib.size_eq] at hstep
    generalize hA1:Lib.lens ((xs.map (·.data.toList)).take (k+1))=A1 at hstep hbound
    generalize Lib.lens ((xs.map (·.data.toList)).take k)=A0 at hstep
    have HA1:=Any.hidJ hA1
    clear hA1
    go_wp2
    exact ⟨⟨k+1,by omega,by go_num,by rw [HA1.out];refine congrArg _ ?_;omega⟩,by simp [intOf];omega⟩
   ·have hke:k=xs.length:=by omega
    subst hke
    have hall:(xs.map (·.data.toList)).take xs.length=xs.map (·.data.toList):=List.take_of_length_le (by simp)
    rw [hall]
    generalize hT:Lib.lens (xs.map (·.data.toList))=T at hjl
    have HT:=Any.hidJ hT
    clear hT hall
    go_wp2_with fail
    have hMT:((M:Int)+(T:Int))=((M+T:Nat):Int):=by omega
    rw [hMT]
    refine (sb_Grow_fresh w.heap.size w.heap.size (M+T) _ (Nat.le_refl _) (heap_alloc_new w _) (by simp) (by omega)).mono ?_
    rintro e w1 ⟨rfl,h1,hb1⟩
    have hb1':Below w.heap.size w w1:=((Below.refl w.heap.size w).alloc (Nat.le_refl _) _).trans hb1
    have hx0:xs[0]? = some x0:=by rw [Hxs.out];rfl
    have hc0:w1.cell? ⟨bk,o,none⟩=some (.string x0):=by
     rw [hb1'.cell (p:=⟨bk,o,none⟩) hbk]
     exact HC.out 0 x0 hx0
    have H1:=Any.hidJ (Or.inr (Lib.BuilderAtF.of h1):SbAt w.heap.size w.heap.size [] w1)
    have Hb1:=Any.hidJ hb1'
    have hBw1:w.heap.size≤w1.heap.size:=hb1'.size
    clear h1 hb1 hb1' hMT
    have hwhole:Lib.join (xs.map (·.data.toList)) sep.data.toList=x0.data.toList++Lib.joinTail sep.data.toList (r.map (·.data.toList)):=by
     rw [Hxs.out,List.map_cons,Lib.join_cons]
    have hCle:∀ k,(x0.data.toList++Lib.joinTail sep.data.toList ((r.map (·.data.toList)).take k)).length≤140737488355328:=fun k=>by
     have h1:=Hlen.out
     rw [hwhole,List.length_append] at h1
     have h2:=Lib.joinTail_take_le sep.data.toList (r.map (·.data.toList)) k
     rw [List.length_append]
     omega
    have HCle:=Any.hidJ hCle
    have Hwhole:=Any.hidJ hwhole
    clear hCle hwhole
    go_wp2_with fail
    refine (sb_WriteString w.heap.size w.heap.size [] x0 w1 H1.out (by have:=HCle.out 0;simp [Lib.joinTail] at this ⊢;omega) hBw1).mono ?_
    rintro e w2 ⟨rfl,h2',hb2,_⟩
    have hstart:([]:List UInt8)++bl x0=x0.data.toList++Lib.joinTail sep.data.toList ((r.map (·.data.toList)).take 0):=by
     simp [Lib.joinTail,bl]
    rw [hstart] at h2'
    have H2:=Any.hidJ h2'
    have Hb2:=Any.hidJ (Hb1.out.trans hb2)
    clear h2' hb2 hstart
    have hrl:r.length=xs.length - 1:=by rw [Hxs.out];simp
    go_wp2_with fail
    go_loopw [65] (fun i wr => ∃ k:Nat,k≤r.length∧i=.int .i64 k∧Hid (SbAt w.heap.size w.heap.size (x0.data.toList++Lib.joinTail sep.data.toList ((r.map (·.data.toList)).take k)) wr)∧Hid (Below w.heap.size w wr)) (fun i _=>r.length - (intOf i).toNat)
    case atStart=>exact ⟨0,Nat.zero_le _,rfl,H2,Hb2⟩
    case round =>
     obtain ⟨k,hk',rfl,HB,HW⟩:=hrel
     by_cases hkr:k < r.length
     ·obtain ⟨y,hy⟩:∃ y,r[k]? = some y:=⟨r[k],List.getElem?_eq_getElem hkr⟩
      have hxy:xs[k+1]? = some y:=by rw [Hxs.out];simpa using hy
      have hcy:wr.cell? ⟨bk,o+1+k,none⟩=some (.string y):=by
       rw [HW.out.cell (p:=⟨bk,o+1+k,none⟩) hbk,show o+1+k=o+(k+1) by omega]
       exact HC.out (k+1) y hxy
      have hBw:w.heap.size≤wr.heap.size:=HW.out.size
      have hnext:x0.data.toList++Lib.joinTail sep.data.toList ((r.map (·.data.toList)).take k)++bl sep++bl y=x0.data.toList++Lib.joinTail sep.data.toList ((r.map (·.data.toList)).take (k+1)):=by
       rw [Lib.joinTail_take_succ sep.data.toList (r.map (·.data.toList)) k y.data.toList (by simp [hy])]
       simp only [bl,List.append_assoc]
      have hl1:=HCle.out (k+1)
      rw [Lib.joinTail_take_succ sep.data.toList (r.map (·.data.toList)) k y.data.toList (by simp [hy])] at hl1
      simp only [List.length_append,← Lib.size_eq] at hl1
      have hl0:(x0.data.toList++Lib.joinTail sep.data.toList ((r.map (·.data.toList)).take k)).length=x0.size+(Lib.joinTail sep.data.toList ((r.map (·.data.toList)).take k)).length:=by
       rw [List.length_append,← Lib.size_eq]
      have hl2:(x0.data.toList++Lib.joinTail sep.data.toList ((r.map (·.data.toList)).take k)++bl sep).length=x0.size+(Lib.joinTail sep.data.toList ((r.map (·.data.toList)).take k)).length+sep.size:=by
       rw [List.length_append,hl0,Lib.size_eq sep]
      generalize (Lib.joinTail sep.data.toList ((r.map (·.data.toList)).take k)).length=J at hl0 hl1 hl2
      have Hn:=Any.hidJ hnext
      have HL0:=Any.hidJ hl0
      have HL2:=Any.hidJ hl2
      clear hnext hy hxy hl0 hl2
      go_wp2_with fail
      refine (sb_WriteString w.heap.size w.heap.size _ sep wr HB.out (by rw [HL0.out];omega) hBw).mono ?_
      rintro e w3 ⟨rfl,h3,hb3,_⟩
      have hBw3:w.heap.size≤w3.heap.size:=Nat.le_trans hBw hb3.size
      have H3:=Any.hidJ h3
      have Hb3:=Any.hidJ hb3
      clear h3 hb3
      go_wp2_with fail
      refine (sb_WriteString w.heap.size w.heap.size _ y w3 H3.out (by rw [HL2.out];omega) hBw3).mono ?_
      rintro e w4 ⟨rfl,h4,hb4,_⟩
      rw [Hn.out] at h4
      have H4:=Any.hidJ h4
      have Hb4:=Any.hidJ ((HW.out.trans Hb3.out).trans hb4)
      clear h4 hb4
      go_wp2
      exact ⟨⟨k+1,by omega,by go_num,H4,Hb4⟩,by simp [intOf];omega⟩
     ·have hke:k=r.length:=by omega
      subst hke
      have hfull:(r.map (·.data.toList)).take r.length=r.map (·.data.toList):=List.take_of_length_le (by simp)
      have hB':=HB.out
      rw [hfull,← Hwhole.out] at hB'
      have hBw:w.heap.size≤wr.heap.size:=HW.out.size
      go_wp2_with fail
      refine (Tryz.Builder_String_any_f w.heap.size w.heap.size _ wr hB' hBw).mono ?_
      rintro e w5 ⟨rfl,_,hb5⟩
      have Hb5:=Any.hidJ (HW.out.trans hb5)
      clear hb5 hB'
      go_wp2
      go_ret
      exact ⟨rfl,Hb5.out⟩)
theorem joinB_one (x sep:ByteArray):joinB [x] sep=x:=by unfold joinB;rw [List.map_cons,List.map_nil,Lib.join_one]
end
section
open Go.RowKit Go.Shelf

theorem str_Join (v:Value) (xs:List ByteArray) (sep:ByteArray) (w:World) (h:SlA w 1 v xs.length (strs xs)) (hN:xs.length≤1000000) (hlen:(joinB xs sep).size≤140737488355328) :
  Calls Tryz.prog 90 #[v,.string sep] w fun e w'=>e=.returned (.string (joinB xs sep))∧Below w.heap.size w w':=by
 obtain ⟨ao,c,rfl⟩:=h.form
 by_cases h0:xs.length=0
 ·have hx:xs=[]:=List.eq_nil_of_length_eq_zero h0
  subst hx
  refine (str_Join_none ao c sep w).mono ?_
  rintro e w' ⟨rfl,rfl⟩
  exact ⟨rfl,Below.refl _ _⟩
 ·obtain ⟨b1,o1,c1,he1,hc1,hm1,hb1,hx1⟩:=h.pos (by omega)
  simp only [Value.slice.injEq,true_and] at he1
  obtain ⟨rfl,rfl⟩:=he1
  have hcl:∀ (j:Nat) x,xs[j]? = some x→w.cell? ⟨b1,o1+j,none⟩=some (.string x):=fun j x hj=>hx1 j _ (by unfold strs;rw [List.getElem?_map,hj];rfl)
  by_cases h1:xs.length=1
  ·obtain ⟨x,hx⟩:=List.length_eq_one_iff.1 h1
   subst hx
   refine (str_Join_one b1 o1 c x sep w (by have:=hcl 0 x rfl;simpa using this)).mono ?_
   rintro e w' ⟨rfl,rfl⟩
   exact ⟨by rw [joinB_one],Below.refl _ _⟩
  ·refine (str_Join_many b1 o1 c xs sep w hcl hb1 (by omega) (by omega) hc1 ?_).mono ?_
   ·have:(joinB xs sep).size=(Lib.join (xs.map (·.data.toList)) sep.data.toList).length:=by unfold joinB;simp [ByteArray.size,bl]
    omega
   ·rintro e w' ⟨rfl,hb⟩
    exact ⟨rfl,hb⟩
end
end Go.Proofs.YtilgbodgmkmjjaaGreatDoor
