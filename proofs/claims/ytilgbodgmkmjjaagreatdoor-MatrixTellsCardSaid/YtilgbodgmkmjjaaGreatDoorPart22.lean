/- Parts: MatCount Law13L LightT LightS Law41S Law41L StReach2 StReach3 Law12H SimLaw Law41R Law41T -/
import Derived.Test.YtilgbodgmkmjjaaGreatDoorPart21
import Derived.Test.YtilgbodgmkmjjaaGreatDoorPart17
import Derived.Test.YtilgbodgmkmjjaaGreatDoorPart18
import Derived.Test.YtilgbodgmkmjjaaGreatDoorPart5
import Derived.Test.YtilgbodgmkmjjaaGreatDoorPart6
import Derived.Test.YtilgbodgmkmjjaaGreatDoorPart16
namespace Go.Proofs.YtilgbodgmkmjjaaGreatDoor
section
open Go.RowKit Go.Shelf

set_option maxRecDepth 100000 in
set_option maxHeartbeats 8000000 in
theorem mat_Counts (v:Value) (R:List MV) (w:World) (hR:SlA w 6 v R.length (R.flatMap MV.cells)) (hfm:∀ x∈R,x.form) (hn:R.length≤10000) :
  Calls Tryz.prog 21 #[v] w fun e w'=>e=.returned (cntV (R.map MV.s))∧Below w.heap.size w w':=by
 have HR:=Lib.hid hR
 have HF:=Lib.hid hfm
 obtain ⟨va,vc,rfl⟩:=hR.form
 clear hR hfm
 go_enter Tryz.func21,Tryz.ntmps21
 go_wp2_with fail
 go_loopw [7] (fun i wr => ∃ (j c0 c1 c2 c3 c4:Nat),j≤R.length∧i=.int .i64 j∧Hid (cntM ((R.map MV.s).take j) 0=c0∧cntM ((R.map MV.s).take j) 1=c1∧cntM ((R.map MV.s).take j) 2=c2∧cntM ((R.map MV.s).take j) 3=c3∧cntM ((R.map MV.s).take j) 4=c4)∧Hid (OneAt w #[.int .i64 (c0:Nat),.int .i64 (c1:Nat),.int .i64 (c2:Nat),.int .i64 (c3:Nat),.int .i64 (c4:Nat)] wr)) (fun i _=>R.length - (intOf i).toNat)
 case atStart=>exact ⟨0,0,0,0,0,0,by omega,rfl,Lib.hid ⟨rfl,rfl,rfl,rfl,rfl⟩,Lib.hid ⟨Blk.new _ _ _,(Below.refl _ _).alloc (Nat.le_refl _) _⟩⟩
 case round =>
  obtain ⟨j,c0,c1,c2,c3,c4,hj,rfl,HN,HT⟩:=hrel
  have hb0:c0≤10000:=by have:=cnt_le ((R.map MV.s).take j) 0;have h2:=List.length_take_le j (R.map MV.s);rw [HN.out.1] at this;omega
  have hb1:c1≤10000:=by have:=cnt_le ((R.map MV.s).take j) 1;have h2:=List.length_take_le j (R.map MV.s);rw [HN.out.2.1] at this;omega
  have hb2:c2≤10000:=by have:=cnt_le ((R.map MV.s).take j) 2;have h2:=List.length_take_le j (R.map MV.s);rw [HN.out.2.2.1] at this;omega
  have hb3:c3≤10000:=by have:=cnt_le ((R.map MV.s).take j) 3;have h2:=List.length_take_le j (R.map MV.s);rw [HN.out.2.2.2.1] at this;omega
  have hb4:c4≤10000:=by have:=cnt_le ((R.map MV.s).take j) 4;have h2:=List.length_take_le j (R.map MV.s);rw [HN.out.2.2.2.2] at this;omega
  by_cases hlt:j < R.length
  ·obtain ⟨b1,o1,c1',he1,hc1,hm1,hb1',hx1⟩:=(HR.out.below HT.out.low).pos (by omega)
   simp only [Value.slice.injEq,true_and] at he1
   obtain ⟨rfl,rfl⟩:=he1
   obtain ⟨p0,p1,p2,p3,p4,p5⟩:=mv_cell hx1 j hlt
   have hfk:=HF.out R[j] (List.getElem_mem hlt)
   have HS:=Lib.hid (fun i=>by have:=cnt_snoc (R:=R.map MV.s) (i:=i) (j:=j) (by rw [List.length_map];exact hlt);rw [List.getElem_map] at this;exact this)
   clear hx1
   generalize R[j]=x at *
   obtain ⟨⟨⟨x1,x2⟩,x3,x4,x5,k⟩,x7,x8⟩:=x
   obtain ⟨⟨f1,f2,f3,e1⟩,⟨f4,f5,f6,e2⟩⟩:=hfk
   dsimp only at e1 e2 p0 p1 p2 p3 p4 p5 HS
   subst e1 e2
   obtain ⟨wa,hwa⟩:∃ V,V=wr.alloc (.cells #[.string x1,.string x2,.slice f1 f2 f3,.slice f4 f5 f6,.bool x5,.int .i64 k] 40):=⟨_,rfl⟩
   have HTx:=Lib.hid (HT.out.alloc (.cells #[.string x1,.string x2,.slice f1 f2 f3,.slice f4 f5 f6,.bool x5,.int .i64 k] 40))
   have HX:=Lib.hid (Blk.new wr #[.string x1,.string x2,.slice f1 f2 f3,.slice f4 f5 f6,.bool x5,.int .i64 k] 40)
   rw [← hwa] at HTx HX
   obtain ⟨G,hG⟩:∃ G,G=wr.heap.size:=⟨_,rfl⟩
   rw [← hG] at HX
   go_upto_region 4 with fail
   rw [← hwa,← hG]
   clear hwa hG p0 p1 p2 p3 p4 p5 hb1'
   obtain ⟨cx,fx,zx⟩:=HX.out
   by_cases h1:k=1
   ·subst h1
    have HC:=Lib.hid (show clsM 1=1 from rfl)
    have Q:=Lib.hid (show ∀ i:Int,cntM ((R.map MV.s).take (j+1)) i=cntM ((R.map MV.s).take j) i+if (1:Int)=i then 1 else 0 from fun i=>by rw [HS.out i,HC.out])
    clear HS HC
    obtain ⟨ca,fa,za⟩:=HTx.out.a
    go_wp2_with fail
    have HTy:=Lib.hid (show OneAt w #[.int .i64 (c0:Nat),.int .i64 ((c1+1):Nat),.int .i64 (c2:Nat),.int .i64 (c3:Nat),.int .i64 (c4:Nat)] (wa.setCell ⟨w.heap.size,1,none⟩ (.int .i64 (c1+1:Nat))) from ⟨HTx.out.a.put (o:=1) (v:=.int .i64 (c1+1:Nat)) (by simp),below_put HTx.out.low (Nat.le_refl _)⟩)
    rw [show ((c1+1:Nat):Int)=(c1:Int)+1 from rfl] at HTy
    exact ⟨⟨j+1,c0,(c1+1),c2,c3,c4,by omega,by go_num,Lib.hid (by
     refine ⟨?_,?_,?_,?_,?_⟩
     ·rw [Q.out,← HN.out.1];rfl
     ·rw [Q.out,← HN.out.2.1];rfl
     ·rw [Q.out,← HN.out.2.2.1];rfl
     ·rw [Q.out,← HN.out.2.2.2.1];rfl
     ·rw [Q.out,← HN.out.2.2.2.2];rfl),HTy⟩,by simp [intOf];omega⟩
   by_cases h2:k=2
   ·subst h2
    have HC:=Lib.hid (show clsM 2=2 from rfl)
    have Q:=Lib.hid (show ∀ i:Int,cntM ((R.map MV.s).take (j+1)) i=cntM ((R.map MV.s).take j) i+if (2:Int)=i then 1 else 0 from fun i=>by rw [HS.out i,HC.out])
    clear HS HC
    obtain ⟨ca,fa,za⟩:=HTx.out.a
    go_wp2_with fail
    have HTy:=Lib.hid (show OneAt w #[.int .i64 (c0:Nat),.int .i64 (c1:Nat),.int .i64 ((c2+1):Nat),.int .i64 (c3:Nat),.int .i64 (c4:Nat)] (wa.setCell ⟨w.heap.size,2,none⟩ (.int .i64 (c2+1:Nat))) from ⟨HTx.out.a.put (o:=2) (v:=.int .i64 (c2+1:Nat)) (by simp),below_put HTx.out.low (Nat.le_refl _)⟩)
    rw [show ((c2+1:Nat):Int)=(c2:Int)+1 from rfl] at HTy
    exact ⟨⟨j+1,c0,c1,(c2+1),c3,c4,by omega,by go_num,Lib.hid (by
     refine ⟨?_,?_,?_,?_,?_⟩
     ·rw [Q.out,← HN.out.1];rfl
     ·rw [Q.out,← HN.out.2.1];rfl
     ·rw [Q.out,← HN.out.2.2.1];rfl
     ·rw [Q.out,← HN.out.2.2.2.1];rfl
     ·rw [Q.out,← HN.out.2.2.2.2];rfl),HTy⟩,by simp [intOf];omega⟩
   by_cases h3:k=3
   ·subst h3
    have HC:=Lib.hid (show clsM 3=3 from rfl)
    have Q:=Lib.hid (show ∀ i:Int,cntM ((R.map MV.s).take (j+1)) i=cntM ((R.map MV.s).take j) i+if (3:Int)=i then 1 else 0 from fun i=>by rw [HS.out i,HC.out])
    clear HS HC
    obtain ⟨ca,fa,za⟩:=HTx.out.a
    go_wp2_with fail
    have HTy:=Lib.hid (show OneAt w #[.int .i64 (c0:Nat),.int .i64 (c1:Nat),.int .i64 (c2:Nat),.int .i64 ((c3+1):Nat),.int .i64 (c4:Nat)] (wa.setCell ⟨w.heap.size,3,none⟩ (.int .i64 (c3+1:Nat))) from ⟨HTx.out.a.put (o:=3) (v:=.int .i64 (c3+1:Nat)) (by simp),below_put HTx.out.low (Nat.le_refl _)⟩)
    rw [show ((c3+1:Nat):Int)=(c3:Int)+1 from rfl] at HTy
    exact ⟨⟨j+1,c0,c1,c2,(c3+1),c4,by omega,by go_num,Lib.hid (by
     refine ⟨?_,?_,?_,?_,?_⟩
     ·rw [Q.out,← HN.out.1];rfl
     ·rw [Q.out,← HN.out.2.1];rfl
     ·rw [Q.out,← HN.out.2.2.1];rfl
     ·rw [Q.out,← HN.out.2.2.2.1];rfl
     ·rw [Q.out,← HN.out.2.2.2.2];rfl),HTy⟩,by simp [intOf];omega⟩
   by_cases h4:k=4
   ·subst h4
    have HC:=Lib.hid (show clsM 4=4 from rfl)
    have Q:=Lib.hid (show ∀ i:Int,cntM ((R.map MV.s).take (j+1)) i=cntM ((R.map MV.s).take j) i+if (4:Int)=i then 1 else 0 from fun i=>by rw [HS.out i,HC.out])
    clear HS HC
    obtain ⟨ca,fa,za⟩:=HTx.out.a
    go_wp2_with fail
    have HTy:=Lib.hid (show OneAt w #[.int .i64 (c0:Nat),.int .i64 (c1:Nat),.int .i64 (c2:Nat),.int .i64 (c3:Nat),.int .i64 ((c4+1):Nat)] (wa.setCell ⟨w.heap.size,4,none⟩ (.int .i64 (c4+1:Nat))) from ⟨HTx.out.a.put (o:=4) (v:=.int .i64 (c4+1:Nat)) (by simp),below_put HTx.out.low (Nat.le_refl _)⟩)
    rw [show ((c4+1:Nat):Int)=(c4:Int)+1 from rfl] at HTy
    exact ⟨⟨j+1,c0,c1,c2,c3,(c4+1),by omega,by go_num,Lib.hid (by
     refine ⟨?_,?_,?_,?_,?_⟩
     ·rw [Q.out,← HN.out.1];rfl
     ·rw [Q.out,← HN.out.2.1];rfl
     ·rw [Q.out,← HN.out.2.2.1];rfl
     ·rw [Q.out,← HN.out.2.2.2.1];rfl
     ·rw [Q.out,← HN.out.2.2.2.2];rfl),HTy⟩,by simp [intOf];omega⟩
   have HC:=Lib.hid (show clsM k=0 from if_neg (by omega))
   by_cases h5:0 < k
   ·have h6:¬ k < 5:=by omega
    clear h1 h2 h3 h4
    have Q:=Lib.hid (show ∀ i:Int,cntM ((R.map MV.s).take (j+1)) i=cntM ((R.map MV.s).take j) i+if (0:Int)=i then 1 else 0 from fun i=>by rw [HS.out i,HC.out])
    clear HS HC
    obtain ⟨ca,fa,za⟩:=HTx.out.a
    go_wp2_with fail
    have HTy:=Lib.hid (show OneAt w #[.int .i64 ((c0+1):Nat),.int .i64 (c1:Nat),.int .i64 (c2:Nat),.int .i64 (c3:Nat),.int .i64 (c4:Nat)] (wa.setCell ⟨w.heap.size,0,none⟩ (.int .i64 (c0+1:Nat))) from ⟨HTx.out.a.put (o:=0) (v:=.int .i64 (c0+1:Nat)) (by simp),below_put HTx.out.low (Nat.le_refl _)⟩)
    rw [show ((c0+1:Nat):Int)=(c0:Int)+1 from rfl] at HTy
    exact ⟨⟨j+1,(c0+1),c1,c2,c3,c4,by omega,by go_num,Lib.hid (by
     refine ⟨?_,?_,?_,?_,?_⟩
     ·rw [Q.out,← HN.out.1];rfl
     ·rw [Q.out,← HN.out.2.1];rfl
     ·rw [Q.out,← HN.out.2.2.1];rfl
     ·rw [Q.out,← HN.out.2.2.2.1];rfl
     ·rw [Q.out,← HN.out.2.2.2.2];rfl),HTy⟩,by simp [intOf];omega⟩
   ·clear h1 h2 h3 h4
    have Q:=Lib.hid (show ∀ i:Int,cntM ((R.map MV.s).take (j+1)) i=cntM ((R.map MV.s).take j) i+if (0:Int)=i then 1 else 0 from fun i=>by rw [HS.out i,HC.out])
    clear HS HC
    obtain ⟨ca,fa,za⟩:=HTx.out.a
    go_wp2_with fail
    have HTy:=Lib.hid (show OneAt w #[.int .i64 ((c0+1):Nat),.int .i64 (c1:Nat),.int .i64 (c2:Nat),.int .i64 (c3:Nat),.int .i64 (c4:Nat)] (wa.setCell ⟨w.heap.size,0,none⟩ (.int .i64 (c0+1:Nat))) from ⟨HTx.out.a.put (o:=0) (v:=.int .i64 (c0+1:Nat)) (by simp),below_put HTx.out.low (Nat.le_refl _)⟩)
    rw [show ((c0+1:Nat):Int)=(c0:Int)+1 from rfl] at HTy
    exact ⟨⟨j+1,(c0+1),c1,c2,c3,c4,by omega,by go_num,Lib.hid (by
     refine ⟨?_,?_,?_,?_,?_⟩
     ·rw [Q.out,← HN.out.1];rfl
     ·rw [Q.out,← HN.out.2.1];rfl
     ·rw [Q.out,← HN.out.2.2.1];rfl
     ·rw [Q.out,← HN.out.2.2.2.1];rfl
     ·rw [Q.out,← HN.out.2.2.2.2];rfl),HTy⟩,by simp [intOf];omega⟩
  ·have HE:=Lib.hid (show (.agg #[.int .i64 (c0:Nat),.int .i64 (c1:Nat),.int .i64 (c2:Nat),.int .i64 (c3:Nat),.int .i64 (c4:Nat)]:Value)=cntV (R.map MV.s) by
    have:=HN.out
    rw [List.take_of_length_le (by rw [List.length_map];omega)] at this
    unfold cntV
    rw [this.1,this.2.1,this.2.2.1,this.2.2.2.1,this.2.2.2.2])
   obtain ⟨ca,fa,za⟩:=HT.out.a
   go_wp2
   obtain ⟨wy,hwy⟩:∃ W,W=puts wr w.heap.size 0 [.int .i64 (c0:Nat),.int .i64 (c1:Nat),.int .i64 (c2:Nat),.int .i64 (c3:Nat),.int .i64 (c4:Nat)]:=⟨_,rfl⟩
   have hch:(((((wr.setCell ⟨w.heap.size,0,none⟩ (.int .i64 (c0:Nat))).setCell ⟨w.heap.size,1,none⟩ (.int .i64 (c1:Nat))).setCell ⟨w.heap.size,2,none⟩ (.int .i64 (c2:Nat))).setCell ⟨w.heap.size,3,none⟩ (.int .i64 (c3:Nat))).setCell ⟨w.heap.size,4,none⟩ (.int .i64 (c4:Nat)))=wy:=hwy.symm
   rw [hch]
   have HY:=Lib.hid (show Blk wy w.heap.size #[.int .i64 (c0:Nat),.int .i64 (c1:Nat),.int .i64 (c2:Nat),.int .i64 (c3:Nat),.int .i64 (c4:Nat)]∧Below w.heap.size w wy by
    rw [hwy]
    refine ⟨?_,below_puts (Nat.le_refl _) _ 0 wr HT.out.low⟩
    have h:=((((HT.out.a.put (o:=0) (v:=.int .i64 (c0:Nat)) (by simp)).put (o:=1) (v:=.int .i64 (c1:Nat)) (by simp)).put (o:=2) (v:=.int .i64 (c2:Nat)) (by simp)).put (o:=3) (v:=.int .i64 (c3:Nat)) (by simp)).put (o:=4) (v:=.int .i64 (c4:Nat)) (by simp)
    simp at h
    exact h)
   clear hch hwy ca fa za
   obtain ⟨cy,fy,zy⟩:=HY.out.1
   exact bodyPost_ret (v:=.agg #[.int .i64 (c0:Nat),.int .i64 (c1:Nat),.int .i64 (c2:Nat),.int .i64 (c3:Nat),.int .i64 (c4:Nat)]) (by simp [results,Tryz.results21,go_sem,cy]) rfl ⟨by rw [← HE.out],HY.out.2⟩
set_option maxRecDepth 100000 in
set_option maxHeartbeats 4000000 in
theorem ref41_SameT (s:MR) (lv hv lv' hv':Value) (w:World) (h1:(⟨s,lv,hv⟩:MV).ok w) (h2:(⟨s,lv',hv'⟩:MV).ok w) :
  Calls Tryz.prog 18 #[mv ⟨s,lv,hv⟩,mv ⟨s,lv',hv'⟩] w fun e w'=>e=.returned (.bool true)∧Below w.heap.size w w':=by
 have hEq:=role_eql
 obtain ⟨⟨r1,r2⟩,lo,hi,op,k⟩:=s
 have H1:=Lib.hid h1
 have H2:=Lib.hid h2
 obtain ⟨a1,c1,e1⟩:=h1.1.form
 obtain ⟨a2,c2,e2⟩:=h1.2.form
 obtain ⟨a3,c3,e3⟩:=h2.1.form
 obtain ⟨a4,c4,e4⟩:=h2.2.form
 dsimp only at e1 e2 e3 e4
 subst e1 e2 e3 e4
 clear h1 h2
 have s1:eqRl (⟨r1,r2⟩:Rl) ⟨r1,r2⟩=true:=by simp [eqRl]
 have HT:=Lib.hid (show TwoAt w #[.string r1,.string r2,.slice a1 lo.length c1,.slice a2 hi.length c2,.bool op,.int .i64 k] #[.string r1,.string r2,.slice a3 lo.length c3,.slice a4 hi.length c4,.bool op,.int .i64 k] ((w.alloc (.cells #[.string r1,.string r2,.slice a1 lo.length c1,.slice a2 hi.length c2,.bool op,.int .i64 k] 44)).alloc (.cells #[.string r1,.string r2,.slice a3 lo.length c3,.slice a4 hi.length c4,.bool op,.int .i64 k] 44))
  from ⟨(Blk.new w _ _).alloc _,(by have:=Blk.new (w.alloc (.cells #[.string r1,.string r2,.slice a1 lo.length c1,.slice a2 hi.length c2,.bool op,.int .i64 k] 44)) #[.string r1,.string r2,.slice a3 lo.length c3,.slice a4 hi.length c4,.bool op,.int .i64 k] 44;simpa using this),((Below.refl _ _).alloc (Nat.le_refl _) _).alloc (by simp) _⟩)
 go_enter Tryz.func18,Tryz.ntmps18
 go_wp2_with fail
 refine (ref1_SameB (.slice a1 lo.length c1) (.slice a3 lo.length c3) lo _ (H1.out.1.below HT.out.low) (H2.out.1.below HT.out.low)).mono ?_
 rintro e w1 ⟨rfl,hb1⟩
 have HT:=Lib.hid (HT.out.later hb1)
 clear hb1
 obtain ⟨ca,fa,za⟩:=HT.out.a
 obtain ⟨cb,fb,zb⟩:=HT.out.b
 go_wp2_with fail
 refine (ref1_SameB (.slice a2 hi.length c2) (.slice a4 hi.length c4) hi _ (H1.out.2.below HT.out.low) (H2.out.2.below HT.out.low)).mono ?_
 rintro e w2 ⟨rfl,hb2⟩
 have HT:=Lib.hid (HT.out.later hb2)
 clear hb2 ca fa za cb fb zb
 go_wp2
 go_ret
 exact ⟨rfl,HT.out.low⟩
end
section
open Go.RowKit Go.Shelf

def b13:ByteArray:=⟨#[66]⟩
theorem ex13_min:minS [s12] [r12]=[s12]:=by kernel_rfl
theorem ex13_m {ps:List Pr} (h:LeastS [s12] (fun r x=>(r,x)∈ps)):membersP ps r12=[b13]:=by
 refine asc_uniqueB _ _ (membersP_asc _ _) (List.pairwise_singleton ..) (fun y=>?_)
 rw [membersP_mem,least_mem (fun s hs=>by rw [List.mem_singleton.1 hs];rfl) h]
 constructor
 ·rintro ⟨s,hs,e1,e2⟩
  rw [List.mem_singleton.1 hs] at e2
  rw [← e2];exact List.mem_singleton.2 rfl
 ·intro hy
  rw [List.mem_singleton.1 hy]
  exact ⟨s12,List.mem_singleton.2 rfl,rfl,rfl⟩
section
variable {w:World} {a0 a2:Nat} {v:Value}
end
end
section
open Go.RowKit Go.Shelf

def LightT (l:List ByteArray) (e:Ending):Prop:=∃ b,e=.returned (.bool b)∧(b=true→l.length≤40∧∀ x∈l,x.size≤40)
set_option maxHeartbeats 1000000 in
theorem law1_LightT (va:Value) (l:List ByteArray) (w:World) (ha:SlA w 1 va l.length (strs l)) (hl:∀ s∈l,s.size≤9223372036854775807) :
  Calls Tryz.prog 147 #[va] w fun e w'=>LightT l e∧w'=w:=by
 have HA:=Lib.hid ha
 have HL:=Lib.hid hl
 have hmax:=ha.max
 obtain ⟨ao,cap,hva⟩:=ha.form
 subst hva
 clear ha hl
 go_enter Tryz.func147,Tryz.ntmps147
 by_cases h40:40 < l.length
 ·have d:decide ((40:Int) < (l.length:Int))=true:=by (rw [decide_eq_true_iff];omega)
  go_wp2
  go_ret
  exact ⟨⟨false,rfl,fun h=>by cases h⟩,rfl⟩
 have d:decide ((40:Int) < (l.length:Int))=false:=by (rw [decide_eq_false_iff_not];omega)
 go_wp2
 go_loop [10] (fun i => ∃ k:Nat,k≤l.length∧i=.int .i64 k∧Hid (∀ j (hj:j < l.length),j < k→l[j].size≤40)) (fun i=>l.length - (intOf i).toNat)
 case atStart=>exact ⟨0,by omega,rfl,Lib.hid (fun j hj h=>absurd h (by omega))⟩
 case round =>
  obtain ⟨k,hk,rfl,HS⟩:=hrel
  by_cases hlt:k < l.length
  ·obtain ⟨b1,o1,c1,he1,hc1,hm1,hb1,hx1⟩:=HA.out.pos (by omega)
   simp only [Value.slice.injEq,true_and] at he1
   obtain ⟨rfl,rfl⟩:=he1
   have p0:=hx1 k _ (strs_get hlt)
   have hsz:=HL.out l[k] (List.getElem_mem hlt)
   clear hx1
   by_cases h:40 < l[k].size
   ·have d1:decide ((40:Int) < (l[k].size:Int))=true:=by (rw [decide_eq_true_iff];omega)
    clear h
    go_wp2
    go_ret
    exact ⟨⟨false,rfl,fun h=>by cases h⟩,rfl⟩
   ·have d1:decide ((40:Int) < (l[k].size:Int))=false:=by (rw [decide_eq_false_iff_not];omega)
    have HS2:=Lib.hid (show ∀ j (hj:j < l.length),j < k+1→l[j].size≤40 from fun j hj hjk=>by
     by_cases e:j=k
     ·subst e;omega
     ·exact HS.out j hj (by omega))
    clear h HS
    go_wp2
    exact ⟨⟨k+1,by omega,by go_num,HS2⟩,by simp [intOf];omega⟩
  ·go_wp2
   go_ret
   exact ⟨⟨true,rfl,fun _=>⟨by omega,fun x hx=>by obtain ⟨j,hj,rfl⟩:=List.getElem_of_mem hx;exact HS.out j hj (by omega)⟩⟩,rfl⟩
end
section
open Go.RowKit Go.Shelf

def Qv.okS (q:Qv) (w:World):Prop:=q.okN 40 w∧q.a.le 40∧q.b.le 40
def LightQS (q:Qv) (w:World) (e:Ending):Prop:=∃ b,e=.returned (.bool b)∧(b=true→q.okS w)
theorem okS_back {q:Qv} {w W:World} (h:q.ok w) (hb:Below w.heap.size w W) (h':q.okS W):q.okS w:=⟨okN_back h hb h'.1,h'.2⟩
def LightV (w:World) (l:List St) (g h:List Rl) (qs:List Qv) (e:Ending):Prop:=∃ b,e=.returned (.bool b)∧(b=true→(l.length≤30∧g.length≤30∧h.length≤30∧qs.length≤30∧allLe l 40∧∀ q∈qs,q.okS w)∧∀ x∈g++h,x.le 40)
set_option maxRecDepth 100000 in
set_option maxHeartbeats 1000000 in
theorem law4_LightS (q:Qv) (w:World) (hq:q.ok w):Calls Tryz.prog 65 #[qv q] w fun e w'=>LightQS q w e∧Below w.heap.size w w':=by
 obtain ⟨ha,hb,ss,hs,hl⟩:=hq
 obtain ⟨k,⟨x1,x2⟩,⟨x3,x4⟩,wv⟩:=q
 have HS:=Lib.hid (fun W h=>law1_Light wv ss W h hl)
 have HQ:=Lib.hid (fun (h:ss.length≤40) (h4:[x1,x2,x3,x4].length≤40∧∀ x∈[x1,x2,x3,x4],x.size≤40)=>show (⟨k,⟨x1,x2⟩,⟨x3,x4⟩,wv⟩:Qv).okS w from ⟨⟨ha,hb,ss,hs,h,hl⟩,⟨h4.2 _ (by simp),h4.2 _ (by simp)⟩,⟨h4.2 _ (by simp),h4.2 _ (by simp)⟩⟩)
 have HW:=Lib.hid hs
 have H4:=Lib.hid (fun W h=>law1_LightT (.slice (some ⟨w.heap.size+1,0,none⟩) 4 4) [x1,x2,x3,x4] W h (by
  intro s hs;simp at hs;rcases hs with rfl | rfl | rfl | rfl
  ·exact ha.1
  ·exact ha.2
  ·exact hb.1
  ·exact hb.2))
 obtain ⟨wo,wc,rfl⟩:=hs.form
 clear ha hb hl hs
 have HB:=Lib.hid ((Below.refl _ w).alloc (Nat.le_refl _) (.cells #[.int .i64 k,.string x1,.string x2,.string x3,.string x4,.slice wo ss.length wc] 50))
 have HB2:=Lib.hid (HB.out.alloc HB.out.size (.cells #[.string x1,.string x2,.string x3,.string x4] 9))
 have S4:=Lib.hid (Sl.new (w.alloc (.cells #[.int .i64 k,.string x1,.string x2,.string x3,.string x4,.slice wo ss.length wc] 50)) [.string x1,.string x2,.string x3,.string x4] 9 1 4 (w.heap.size+1) (by simp) rfl (by simp [maxLen]))
 go_enter Tryz.func65,Tryz.ntmps65
 go_wp2_with fail
 refine (HS.out _ (HW.out.below HB.out)).mono ?_
 rintro e w1 ⟨⟨b1,rfl,hb1⟩,rfl⟩
 have HB1:=Lib.hid hb1
 clear hb1
 cases b1 with
 | false =>
  go_wp2
  go_ret
  exact ⟨⟨false,rfl,fun h=>by cases h⟩,HB.out⟩
 | true =>
  go_wp2_with fail
  refine (H4.out _ S4.out.a).mono ?_
  rintro e w1 ⟨⟨b2,rfl,hb2⟩,rfl⟩
  have HB4:=Lib.hid hb2
  clear hb2
  go_wp2
  go_ret
  exact ⟨⟨b2,rfl,fun h=>HQ.out (HB1.out (by first | rfl | trivial)) (HB4.out h)⟩,HB2.out⟩
set_option maxRecDepth 100000 in
set_option maxHeartbeats 8000000 in
theorem law5_LightS (v0 v1 v2 v3:Value) (l:List St) (g h:List Rl) (qs:List Qv) (w:World) (hp:PolAt w v0 v1 v2 v3 l g h qs) :
  Calls Tryz.prog 11 #[pv v0 v1 v2 v3] w fun e w'=>LightV w l g h qs e∧Below w.heap.size w w':=by
 have HP:=Lib.hid hp
 have hm0:=hp.rs.max
 have hm1:=hp.rg.max
 have hm2:=hp.rh.max
 have hm3:=hp.rq.max
 obtain ⟨a0,c0,rfl⟩:=hp.rs.form
 obtain ⟨a1,c1,rfl⟩:=hp.rg.form
 obtain ⟨a2,c2,rfl⟩:=hp.rh.form
 obtain ⟨a3,c3,rfl⟩:=hp.rq.form
 have HL:=Lib.hid (fun k (hk:k < l.length) W=>law3_Light l[k] W (hp.ls _ (List.getElem_mem hk)))
 have T0:=Lib.hid (show OneAt w #[.slice a0 l.length c0,.slice a1 g.length c1,.slice a2 h.length c2,.slice a3 qs.length c3] (w.alloc (.cells #[.slice a0 l.length c0,.slice a1 g.length c1,.slice a2 h.length c2,.slice a3 qs.length c3] 26)) from ⟨Blk.new w _ _,(Below.refl _ _).alloc (Nat.le_refl _) _⟩)
 clear hp
 go_enter Tryz.func11,Tryz.ntmps11
 by_cases t0:30 < l.length
 ·have d0:decide ((30:Int) < (l.length:Int))=true:=by (rw [decide_eq_true_iff];omega)
  go_wp2
  go_ret
  exact ⟨⟨false,rfl,(fun h=>by cases h)⟩,T0.out.low⟩
 have d0:decide ((30:Int) < (l.length:Int))=false:=by (rw [decide_eq_false_iff_not];omega)
 by_cases t1:30 < g.length
 ·have d1:decide ((30:Int) < (g.length:Int))=true:=by (rw [decide_eq_true_iff];omega)
  go_wp2
  go_ret
  exact ⟨⟨false,rfl,(fun h=>by cases h)⟩,T0.out.low⟩
 have d1:decide ((30:Int) < (g.length:Int))=false:=by (rw [decide_eq_false_iff_not];omega)
 by_cases t2:30 < h.length
 ·have d2:decide ((30:Int) < (h.length:Int))=true:=by (rw [decide_eq_true_iff];omega)
  go_wp2
  go_ret
  exact ⟨⟨false,rfl,(fun h=>by cases h)⟩,T0.out.low⟩
 have d2:decide ((30:Int) < (h.length:Int))=false:=by (rw [decide_eq_false_iff_not];omega)
 by_cases t3:30 < qs.length
 ·have d3:decide ((30:Int) < (qs.length:Int))=true:=by (rw [decide_eq_true_iff];omega)
  go_wp2
  go_ret
  exact ⟨⟨false,rfl,(fun h=>by cases h)⟩,T0.out.low⟩
 have d3:decide ((30:Int) < (qs.length:Int))=false:=by (rw [decide_eq_false_iff_not];omega)
 go_wp2_with fail
 clear d0 d1 d2 d3
 go_loopw [34] (fun i wr => ∃ k:Nat,k≤l.length∧i=.int .i64 k∧Hid (OneAt w #[.slice a0 l.length c0,.slice a1 g.length c1,.slice a2 h.length c2,.slice a3 qs.length c3] wr)∧Hid (∀ j (hj:j < l.length),j < k→l[j].le 40)) (fun i _=>l.length - (intOf i).toNat)
 case atStart=>exact ⟨0,by omega,rfl,T0,Lib.hid (fun _ _ h=>absurd h (by omega))⟩
 case round =>
  obtain ⟨k,hk,rfl,TR,HJ⟩:=hrel
  by_cases hlt:k < l.length
  ·obtain ⟨b1,o1,e1,he1,hc1,hm1',hb1,hx1⟩:=HP.out.rs.pos (by omega)
   simp only [Value.slice.injEq,true_and] at he1
   obtain ⟨rfl,rfl⟩:=he1
   obtain ⟨p0,p1,p2,p3,p4,p5,p6,p7,p8⟩:=st_cell (w:=wr) (fun j u hu=>(TR.out.low.cell (p:=⟨b1,o1+j,none⟩) hb1).trans (hx1 j u hu)) k hlt
   have hbr:b1 < wr.heap.size:=Nat.lt_of_lt_of_le hb1 TR.out.low.size
   have HLk:=Lib.hid (fun W=>HL.out k hlt W)
   clear hx1
   go_wp2_with fail
   refine (HLk.out _).mono ?_
   rintro e w2 ⟨b,rfl,hle,hb2⟩
   have HLE:=Lib.hid hle
   have T2:=Lib.hid ((TR.out.alloc _).later hb2)
   clear hle hb2
   cases b with
   | false =>
    go_wp2
    go_ret
    exact ⟨⟨false,rfl,(fun h=>by cases h)⟩,T2.out.low⟩
   | true =>
    have HJ2:Hid (∀ j (hj:j < l.length),j < k+1→l[j].le 40):=Lib.hid (fun j hj hjk=>by
     by_cases h:j < k
     ·exact HJ.out j hj h
     ·obtain rfl:j=k:=by omega
      exact HLE.out (by first | rfl | trivial))
    go_wp2
    exact ⟨⟨k+1,by omega,by go_num,T2,HJ2⟩,by simp [intOf];omega⟩
  ·have HJ3:=Lib.hid (show allLe l 40 from fun x hx=>by
    obtain ⟨j,hj,rfl⟩:=List.getElem_of_mem hx
    exact HJ.out j hj (by omega))
   obtain ⟨ca,fa,za⟩:=TR.out.a
   clear HJ HL
   go_wp2_with fail
   go_loopw [45] (fun i wr => ∃ k:Nat,k≤qs.length∧i=.int .i64 k∧Hid (OneAt w #[.slice a0 l.length c0,.slice a1 g.length c1,.slice a2 h.length c2,.slice a3 qs.length c3] wr)∧Hid (∀ j (hj:j < qs.length),j < k→qs[j].okS w)) (fun i _=>qs.length - (intOf i).toNat)
   case atStart=>exact ⟨0,by omega,rfl,TR,Lib.hid (fun _ _ h=>absurd h (by omega))⟩
   case round =>
    clear TR ca fa za
    obtain ⟨k,hk,rfl,TR,HQJ⟩:=hrel
    by_cases hlt:k < qs.length
    ·obtain ⟨b1,o1,e1,he1,hc1,hm1',hb1,hx1⟩:=HP.out.rq.pos (by omega)
     simp only [Value.slice.injEq,true_and] at he1
     obtain ⟨rfl,rfl⟩:=he1
     obtain ⟨p0,p1,p2,p3,p4,p5⟩:=q_cell (w:=wr) (fun j u hu=>(TR.out.low.cell (p:=⟨b1,o1+j,none⟩) hb1).trans (hx1 j u hu)) k hlt
     have hbr:b1 < wr.heap.size:=Nat.lt_of_lt_of_le hb1 TR.out.low.size
     have hqo:=HP.out.lq _ (List.getElem_mem hlt)
     have QL:=Lib.hid (fun W (hb:Below w.heap.size w W)=>law4_LightS qs[k] W (hqo.below hb))
     have QB:=Lib.hid (fun (W:World) (hb:Below w.heap.size w W) (h:qs[k].okS W)=>okS_back hqo hb h)
     have HQ2:Hid (qs[k].okS w→∀ j (hj:j < qs.length),j < k+1→qs[j].okS w):=Lib.hid (fun hpk j hj hjk=>by
      by_cases h:j < k
      ·exact HQJ.out j hj h
      ·obtain rfl:j=k:=by omega
       exact hpk)
     obtain ⟨wo,wc,hw5⟩:∃ a c,qs[k].w=.slice a ((hqo.2.2).choose).length c:=((hqo.2.2).choose_spec.1).form
     generalize (hqo.2.2).choose.length=nw at hw5
     have hek:qs[k]=⟨qs[k].k,⟨qs[k].a.o,qs[k].a.n⟩,⟨qs[k].b.o,qs[k].b.n⟩,qs[k].w⟩:=rfl
     clear hx1 hqo
     generalize qs[k]=x at *
     obtain ⟨xk,⟨x1,x2⟩,⟨x3,x4⟩,xw⟩:=x
     dsimp only at hw5
     subst hw5
     clear hek
     have T2:=Lib.hid (TR.out.alloc (.cells #[.int .i64 xk,.string x1,.string x2,.string x3,.string x4,.slice wo nw wc] 50))
     go_wp2_with fail
     refine (QL.out _ T2.out.low).mono ?_
     rintro e w2 ⟨⟨b,rfl,hbq⟩,hb2⟩
     have T3:=Lib.hid (T2.out.later hb2)
     have HBQ:=Lib.hid (fun h=>HQ2.out (QB.out _ T2.out.low (hbq h)))
     clear hb2 hbq
     cases b with
     | false =>
      go_wp2
      go_ret
      exact ⟨⟨false,rfl,(fun h=>by cases h)⟩,T3.out.low⟩
     | true =>
      go_wp2
      exact ⟨⟨k+1,by omega,by go_num,T3,Lib.hid (HBQ.out (by first | rfl | trivial))⟩,by simp [intOf];omega⟩
    ·have HQA:=Lib.hid (show ∀ q∈qs,q.okS w from fun q hq=>by
      obtain ⟨j,hj,rfl⟩:=List.getElem_of_mem hq
      exact HQJ.out j hj (by omega))
     obtain ⟨inf,hi,hz0,hz1,hz2⟩:=info_parts rl_info'
     have HINF:=Lib.hid hi
     have T2:=TR.out.drew
     have hown:(wr.drew.alloc (.cells #[] 28)).ownsRow wr.heap.size 28 2 (.slice (some ⟨wr.heap.size,0,none⟩) 0 0) 0 []:=World.ownsRow_made wr.drew #[] 0 (Nat.le_refl _) (Nat.zero_le _) (by simp)
     have hlow:Below wr.heap.size wr (wr.drew.alloc (.cells #[] 28)):=(below_drew (Below.refl _ _)).alloc (Nat.le_refl _) _
     have T4:=TR.out.later hlow
     obtain ⟨ca,fa,za⟩:=TR.out.a
     have hza:w.heap.size < wr.heap.size:=za
     clear hi fa za
     go_wp2_with fail
     go_region_held3 (fun W => ∀ o,W.cell? ⟨w.heap.size,o,none⟩=(#[.slice a0 l.length c0,.slice a1 g.length c1,.slice a2 h.length c2,.slice a3 qs.length c3]:Array Value)[o]?)
      (first | exact T2.a.1 | exact T4.a.1 | exact T5.a.1 | exact T6.a.1 | go_keep)
      (first
       | (refine step_row rfl _ _ 23 rfl wr.heap.size 28 inf _ 2 32 Tryz.underlying23 HINF.out hz0 hz1 hz2 (Nat.le_of_ble_eq_true rfl) rfl (Nat.le_of_ble_eq_true rfl) _ 0 [] rfl hown _ g.length _ rfl (HP.out.rg.below T4.low) (rls_one _) ?_ hlow.size ?_;omega;intro a5 c5 w5 hown5 hg5;have hb5:=below_own hlow hown hg5 hlow.size (Nat.le_refl _);have T5:=TR.out.later hb5)
       | (refine step_row rfl _ _ 23 rfl wr.heap.size 28 inf _ 2 32 Tryz.underlying23 HINF.out hz0 hz1 hz2 (Nat.le_of_ble_eq_true rfl) rfl (Nat.le_of_ble_eq_true rfl) _ (0+g.length) _ rfl hown5 _ h.length _ rfl (HP.out.rh.below T5.low) (rls_one _) ?_ hb5.size ?_;omega;intro a6 c6 w6 hown6 hg6;have hb6:=below_own hb5 hown5 hg6 hb5.size (Nat.le_refl _);have T6:=TR.out.later hb6;obtain ⟨n6,hn6⟩:∃ n6,n6=0+g.length+h.length:=⟨_,rfl⟩;rw [← hn6] at hown6 ⊢;have HN6:=Lib.hid hn6;clear hn6))
     have HS6:=Lib.hid (show Sl w6 2 (.slice a6 n6 c6) n6 ((g++h).flatMap Rl.cells) by have:=Sl.of_own hown6;rw [rl_flat];simpa using this)
     have HLe:=Lib.hid (show ∀ x∈g++h,x.le 9223372036854775807 from fun x hx=>by
      rcases List.mem_append.1 hx with hx | hx
      ·exact HP.out.lg x hx
      ·exact HP.out.lh x hx)
     have HN:=Lib.hid (show n6=(g++h).length by rw [HN6.out,List.length_append];omega)
     have HB6:=Lib.hid T6.low
     have hn6m:n6≤1000:=by have:=HN6.out;omega
     have HGH:∃ gh,Hid (g++h=gh):=⟨_,Lib.hid rfl⟩
     obtain ⟨gh,HGH⟩:=HGH
     rw [HGH.out] at HS6 HLe HN
     clear hown5 hown6 hg5 hg6 hb5 hb6 T2 T4 T5 T6 hlow hown ca hza TR HN6
     go_wp2_with fail
     go_loopw [61] (fun i wr => ∃ k:Nat,k≤n6∧i=.int .i64 k∧Hid (Below w6.heap.size w6 wr)∧Hid (∀ j (hj:j < gh.length),j < k→gh[j].le 40)) (fun i _=>n6 - (intOf i).toNat)
     case atStart=>exact ⟨0,by omega,rfl,Lib.hid (Below.refl _ _),Lib.hid (fun _ _ h=>absurd h (by omega))⟩
     case round =>
      obtain ⟨k,hk,rfl,HB,HRJ⟩:=hrel
      by_cases hlt:k < n6
      ·obtain ⟨b1,o1,e1,he1,hc1,hm1',hb1,hx1⟩:=HS6.out.pos (by omega)
       simp only [Value.slice.injEq,true_and] at he1
       obtain ⟨rfl,rfl⟩:=he1
       have hlt2:k < gh.length:=by have:=HN.out;omega
       obtain ⟨p0,p1⟩:=rl_cell (w:=wr) (fun j u hu=>(HB.out.cell (p:=⟨b1,o1+j,none⟩) hb1).trans (hx1 j u hu)) k hlt2
       have hbr:b1 < wr.heap.size:=Nat.lt_of_lt_of_le hb1 HB.out.size
       have hle:=HLe.out _ (List.getElem_mem hlt2)
       have HR2:Hid (gh[k].le 40→∀ j (hj:j < gh.length),j < k+1→gh[j].le 40):=Lib.hid (fun hpk j hj hjk=>by
        by_cases h:j < k
        ·exact HRJ.out j hj h
        ·obtain rfl:j=k:=by omega
         exact hpk)
       clear hx1
       generalize gh[k]=x at *
       obtain ⟨x1,x2⟩:=x
       have hz1':x1.size≤9223372036854775807:=hle.1
       have hz2':x2.size≤9223372036854775807:=hle.2
       have HB2:=Lib.hid (HB.out.alloc HB.out.size (.cells #[.string x1,.string x2] 28))
       clear hle
       by_cases q1:40 < x1.size
       ·have d1:decide ((40:Int) < (x1.size:Int))=true:=by (rw [decide_eq_true_iff];omega)
        clear q1
        go_wp2
        go_ret
        exact ⟨⟨false,rfl,(fun h=>by cases h)⟩,HB6.out.trans (HB2.out.mono HB6.out.size)⟩
       have d1:decide ((40:Int) < (x1.size:Int))=false:=by (rw [decide_eq_false_iff_not];omega)
       have Q1:=Lib.hid q1
       clear q1
       by_cases q2:40 < x2.size
       ·have d2:decide ((40:Int) < (x2.size:Int))=true:=by (rw [decide_eq_true_iff];omega)
        clear q2
        go_wp2
        go_ret
        exact ⟨⟨false,rfl,(fun h=>by cases h)⟩,HB6.out.trans (HB2.out.mono HB6.out.size)⟩
       have d2:decide ((40:Int) < (x2.size:Int))=false:=by (rw [decide_eq_false_iff_not];omega)
       have HR3:=Lib.hid (HR2.out ⟨by have:=Q1.out;show x1.size≤40;omega,by show x2.size≤40;omega⟩)
       clear q2
       go_wp2
       exact ⟨⟨k+1,by omega,by go_num,HB2,HR3⟩,by simp [intOf];omega⟩
      ·have HR4:Hid (∀ x∈g++h,x.le 40):=Lib.hid (by
        rw [HGH.out]
        intro x hx
        obtain ⟨j,hj,rfl⟩:=List.getElem_of_mem hx
        exact HRJ.out j hj (by have:=HN.out;omega))
       go_wp2
       go_ret
       exact ⟨⟨true,rfl,(fun _=>⟨⟨by omega,by omega,by omega,by omega,HJ3.out,HQA.out⟩,HR4.out⟩)⟩,HB6.out.trans (HB.out.mono HB6.out.size)⟩
end
section
open Go.RowKit Go.Shelf

structure MatQ (w:World) (v0 v1 v2 v3:Value) (l:List St) (g h:List Rl) (qs:List Qv) (F:Qv→List ByteArray):Prop where
 at_:PolAt w v0 v1 v2 v3 l g h qs
 hl:l.length≤30
 hg:g.length≤30
 hh:h.length≤30
 hq:qs.length≤30
 l40:allLe l 40
 gh:∀ x∈g++h,x.le 40
 qle:∀ q∈qs,q.a.le 40∧q.b.le 40
 hF:WhoF w qs F
 uz:∀ q∈qs,∀ s∈F q,s.size≤9223372036854775807
 hT:TB w
section
variable {w W:World} {v0 v1 v2 v3:Value} {l:List St} {g h:List Rl} {qs:List Qv} {F:Qv→List ByteArray}
theorem MatQ.below (P:MatQ w v0 v1 v2 v3 l g h qs F) (hb:Below w.heap.size w W):MatQ W v0 v1 v2 v3 l g h qs F :=
 ⟨P.at_.below hb,P.hl,P.hg,P.hh,P.hq,P.l40,P.gh,P.qle,P.hF.below hb,P.uz,P.hT.below hb⟩
theorem MatQ.polx (P:MatQ w v0 v1 v2 v3 l g h qs F) (hr:RightP l g h qs F):PolX w v0 v1 v2 v3 l g h qs F (newB (allPrins l g h qs F)) (newB (allNames l g h qs)) :=
 hr.polx P.at_ P.hT P.hl P.hg P.hh P.hq P.hF P.l40
theorem matq_Right (P:MatQ w v0 v1 v2 v3 l g h qs F) :
  Calls Tryz.prog 66 #[pv v0 v1 v2 v3] w fun e w'=>RightI l g h qs F e∧Below w.heap.size w w' :=
 policy_RightL v0 v1 v2 v3 l g h qs w P.at_ (by have:=P.hl;omega) (by have:=P.hg;omega) (by have:=P.hh;omega) (by have:=P.hq;omega) (fun x hx=>(P.l40 x hx).mono (by decide)) (fun x hx=>(P.gh x hx).mono (by decide))
  (fun x hx=>⟨(P.qle x hx).1.mono (by decide),(P.qle x hx).2.mono (by decide)⟩) F P.hF P.uz
theorem matq_Ref (P:MatQ w v0 v1 v2 v3 l g h qs F) :
  Calls Tryz.prog 14 #[pv v0 v1 v2 v3] w fun e w'=>RightI l g h qs F e∧Below w.heap.size w w' :=
 ref5_RightL v0 v1 v2 v3 l g h qs w P.at_ P.hl P.hg P.hh P.hq P.l40 F P.hF P.uz
theorem matq_Of (P:MatQ w v0 v1 v2 v3 l g h qs F) (hr:RightP l g h qs F) (ps es:List Pr) (hps:LeastS (minS l h) (fun r x=>(r,x)∈ps)) (hes:LeastS (maxS l g (newB (allPrins l g h qs F)) (newB (allNames l g h qs))) (fun r x=>(r,x)∈es)) :
  Calls Tryz.prog 13 #[pv v0 v1 v2 v3] w fun e w' => ∃ (v:Value) (R:List MV),e=.returned (.tuple #[v,.int .i64 0])∧Sl w' 6 v R.length (R.flatMap MV.cells)∧RowsIn w' R∧R.map MV.s=(allR (newB (allPrins l g h qs F)) (newB (allNames l g h qs))).map (rowM ps es (freshB (newB (allPrins l g h qs F))))∧Below w.heap.size w w' :=
 matrix_Of (P.polx hr) hr.good.ps hr.good.ns (fun W hb=>(matq_Right (P.below hb)).mono (by
  rintro e w' ⟨⟨b,rfl,hi⟩,hb'⟩
  rw [hi.2 hr]
  exact ⟨rfl,hb'⟩)) ps es hps hes
set_option maxRecDepth 100000 in
set_option maxHeartbeats 2000000 in
theorem matq_OfNo (P:MatQ w v0 v1 v2 v3 l g h qs F) (hr:¬ RightP l g h qs F) :
  Calls Tryz.prog 13 #[pv v0 v1 v2 v3] w fun e w'=>e=.returned (.tuple #[.slice none 0 0,.int .i64 6])∧Below w.heap.size w w':=by
 have hw:Below w.heap.size w (w.alloc (.cells #[v0,v1,v2,v3] 26)):=(Below.refl _ _).alloc (Nat.le_refl _) _
 have RT:=Lib.hid (matq_Right (P.below hw))
 have HW:=Lib.hid hw
 have HN:=Lib.hid hr
 obtain ⟨a0,c0,rfl⟩:=P.at_.rs.form
 obtain ⟨a1,c1,rfl⟩:=P.at_.rg.form
 obtain ⟨a2,c2,rfl⟩:=P.at_.rh.form
 obtain ⟨a3,c3,rfl⟩:=P.at_.rq.form
 clear P hw hr
 go_enter Tryz.func13,Tryz.ntmps13
 go_wp2_with fail
 refine RT.out.mono ?_
 rintro e w1 ⟨⟨b,rfl,hi⟩,hb1⟩
 have hbf:b=false:=by
  cases b with
  | false=>rfl
  | true=>exact absurd (hi.1 rfl) HN.out
 subst hbf
 have HB:=Lib.hid (HW.out.trans (hb1.mono HW.out.size))
 clear hi hb1 RT
 go_wp2
 go_ret2
 exact ⟨rfl,HB.out⟩
set_option maxRecDepth 100000 in
set_option maxHeartbeats 4000000 in
theorem law41_small (P:MatQ w v0 v1 v2 v3 l g h qs F) :
  Calls Tryz.prog 15 #[pv v0 v1 v2 v3] w fun e w'=>(∃ b,e=.returned (.bool b)∧(b=true→RightP l g h qs F∧(newB (allPrins l g h qs F)).length≤5∧(newB (allNames l g h qs)).length≤4))∧Below w.heap.size w w':=by
 have HP:=Lib.hid P
 have LP:=Lib.hid (fun W hb=>law5_LightR v0 v1 v2 v3 l g h qs W (P.at_.below (w':=W) hb))
 have RT:=Lib.hid (fun W hb=>matq_Ref (P.below (W:=W) hb))
 obtain ⟨a0,c0,rfl⟩:=P.at_.rs.form
 obtain ⟨a1,c1,rfl⟩:=P.at_.rg.form
 obtain ⟨a2,c2,rfl⟩:=P.at_.rh.form
 obtain ⟨a3,c3,rfl⟩:=P.at_.rq.form
 have HT:=Lib.hid (show OneAt w #[.slice a0 l.length c0,.slice a1 g.length c1,.slice a2 h.length c2,.slice a3 qs.length c3] (w.alloc (.cells #[.slice a0 l.length c0,.slice a1 g.length c1,.slice a2 h.length c2,.slice a3 qs.length c3] 26)) from ⟨Blk.new w _ _,(Below.refl _ _).alloc (Nat.le_refl _) _⟩)
 clear P
 go_enter Tryz.func15,Tryz.ntmps15
 go_wp2_with fail
 refine (LP.out _ HT.out.low).mono ?_
 rintro e w1 ⟨⟨bp,rfl,_⟩,hb1⟩
 have HT:=Lib.hid (HT.out.later hb1)
 clear hb1 LP
 cases bp with
 | false =>
  go_wp2_with fail
  go_ret
  exact ⟨⟨false,rfl,fun h=>by cases h⟩,HT.out.low⟩
 | true =>
 obtain ⟨ca,fa,za⟩:=HT.out.a
 go_wp2_with fail
 refine (RT.out _ HT.out.low).mono ?_
 rintro e w2 ⟨⟨br,rfl,hri⟩,hb2⟩
 have HT:=Lib.hid (HT.out.later hb2)
 have HRI:=Lib.hid hri
 clear hri hb2 RT ca fa za
 cases br with
 | false =>
  go_wp2_with fail
  go_ret
  exact ⟨⟨false,rfl,fun h=>by cases h⟩,HT.out.low⟩
 | true =>
 have hrp:=HRI.out.1 (by first | rfl | trivial)
 have HRP:=Lib.hid hrp
 have PR:=Lib.hid (fun W (hb:Below w.heap.size w W)=>ref5_PrinsX ((HP.out.below hb).polx hrp))
 have PN:=Lib.hid (fun W (hb:Below w.heap.size w W)=>ref5_NamesX ((HP.out.below hb).polx hrp))
 clear HRI hrp
 obtain ⟨PS,hPS⟩:∃ x,newB (allPrins l g h qs F)=x:=⟨_,rfl⟩
 obtain ⟨NS,hNS⟩:∃ x,newB (allNames l g h qs)=x:=⟨_,rfl⟩
 rw [hPS] at PR
 rw [hNS] at PN
 have EP:=Lib.hid hPS
 have EN:=Lib.hid hNS
 clear hPS hNS
 obtain ⟨ca,fa,za⟩:=HT.out.a
 go_wp2_with fail
 refine (PR.out _ HT.out.low).mono ?_
 rintro e w3 ⟨vp,rfl,ho3,hb3⟩
 obtain ⟨pa,pc,rfl⟩:=own_form ho3
 have HT:=Lib.hid (HT.out.later hb3)
 clear ho3 hb3 PR ca fa za
 by_cases h6:PS.length≤5
 ·have d6:decide ((PS.length:Int)≤5)=true:=by rw [decide_eq_true_iff];omega
  obtain ⟨ca,fa,za⟩:=HT.out.a
  go_wp2_with fail
  refine (PN.out _ HT.out.low).mono ?_
  rintro e w4 ⟨vn,rfl,ho4,hb4⟩
  obtain ⟨na,nc,rfl⟩:=own_form ho4
  have HT:=Lib.hid (HT.out.later hb4)
  clear ho4 hb4 PN ca fa za
  by_cases h4:NS.length≤4
  ·have d4:decide ((NS.length:Int)≤4)=true:=by rw [decide_eq_true_iff];omega
   have H5:=Lib.hid h6
   have H4:=Lib.hid h4
   go_wp2_with fail
   go_ret
   exact ⟨⟨true,rfl,fun _=>⟨HRP.out,by rw [EP.out];exact H5.out,by rw [EN.out];exact H4.out⟩⟩,HT.out.low⟩
  ·have d4:decide ((NS.length:Int)≤4)=false:=by rw [decide_eq_false_iff_not];omega
   go_wp2_with fail
   go_ret
   exact ⟨⟨false,rfl,fun h=>by cases h⟩,HT.out.low⟩
 ·have d6:decide ((PS.length:Int)≤5)=false:=by rw [decide_eq_false_iff_not];omega
  go_wp2_with fail
  go_ret
  exact ⟨⟨false,rfl,fun h=>by cases h⟩,HT.out.low⟩
end
theorem ex41_row {ps es:List Pr} (h:LeastS (minS [s12] [r12]) (fun r x=>(r,x)∈ps)) (h':LeastS (maxS [s12] [r12] P12 N12) (fun r x=>(r,x)∈es)):rowM ps es (freshB P12) r12=⟨r12,[b13],[b13],false,1⟩:=by
 rw [ex13_min] at h
 unfold rowM
 rw [ex13_m h,ex12_p h',fresh12]
 kernel_rfl
theorem ex41_line:lineM ⟨r12,[b13],[b13],false,1⟩=⟨#[65,46,114,32,99,108,111,115,101,100,32,66]⟩:=by kernel_rfl
theorem ex41_right:RightP [s12] [r12] [r12] [] F12:=by
 have h1:∀ x∈[s12],rightS x=true:=fun x hx=>by rw [List.mem_singleton.1 hx];exact ex12_right
 have h2:∀ x∈[r12]++[r12],isRole x=true:=fun x hx=>by
  simp only [List.cons_append,List.nil_append,List.mem_cons,List.not_mem_nil,or_false,or_self] at hx
  rw [hx];kernel_rfl
 exact ⟨h1,h2,fun _ h=>(by cases h),by kernel_rfl,by kernel_rfl,by kernel_rfl,by kernel_rfl⟩
theorem ex41_in {w:World} {a0 a1 a2:Nat} (hT:TB w) (h1:Sl w 9 (.slice (some ⟨a0,0,none⟩) 1 1) 1 ([s12].flatMap St.cells)) (h2:Sl w 2 (.slice (some ⟨a1,0,none⟩) 1 1) 1 ([r12].flatMap Rl.cells)) (h3:Sl w 2 (.slice (some ⟨a2,0,none⟩) 1 1) 1 ([r12].flatMap Rl.cells)) :
  MatQ w (.slice (some ⟨a0,0,none⟩) 1 1) (.slice (some ⟨a1,0,none⟩) 1 1) (.slice (some ⟨a2,0,none⟩) 1 1) (.slice none 0 0) [s12] [r12] [r12] [] F12:=by
 have hle:∀ s∈[s12],s.le 40:=fun s hs=>by
  rw [List.mem_singleton.1 hs]
  simp only [s12,r12,St.le,Rl.le,noR,ByteArray.size];decide
 have hr:r12.le 40:=⟨by decide,by decide⟩
 have hr1:∀ x∈[r12],x.le 9223372036854775807:=fun x hx=>by rw [List.mem_singleton.1 hx];exact hr.mono (by decide)
 exact ⟨⟨h1.a,h2.a,h3.a,(Sl.nil _ _).a,fun s hs=>(hle s hs).mono (by decide),hr1,hr1,fun _ h=>(by cases h)⟩,by decide,by decide,by decide,by decide,hle,fun x hx=>by
  simp only [List.cons_append,List.nil_append,List.mem_cons,List.not_mem_nil,or_false,or_self] at hx
  rw [hx];exact hr,fun _ h=>(by cases h),fun _ h=>(by cases h),fun _ h=>(by cases h),hT⟩
end
section
open Go.RowKit Go.Shelf

theorem ex41_fits {x:MV} (h:x.s=⟨r12,[b13],[b13],false,1⟩):x.fits:=by
 have hb:∀ s∈[b13],s.size≤40:=fun s hs=>by rw [List.mem_singleton.1 hs];decide
 refine ⟨?_,?_,?_,?_,?_⟩ <;> rw [h]
 ·exact ⟨by decide,by decide⟩
 ·exact hb
 ·exact hb
 ·decide
 ·decide
structure Ex41R (w:World) (v:Value) (R:List MV):Prop where
 sl:Sl w 6 v R.length (R.flatMap MV.cells)
 rows:RowsIn w R
 two:R.length=2
 one:∀ x∈R,x.s.r=r12→x.s=⟨r12,[b13],[b13],false,1⟩
 ex:∃ x∈R,x.s.r=r12
theorem Ex41R.below {w w':World} {v:Value} {R:List MV} (h:Ex41R w v R) (hb:Below w.heap.size w w'):Ex41R w' v R:=⟨h.sl.below hb,h.rows.below hb,h.two,h.one,h.ex⟩
theorem ex41_Of {w:World} {a0 a1 a2:Nat} (hT:TB w) (h1:Sl w 9 (.slice (some ⟨a0,0,none⟩) 1 1) 1 ([s12].flatMap St.cells)) (h2:Sl w 2 (.slice (some ⟨a1,0,none⟩) 1 1) 1 ([r12].flatMap Rl.cells)) (h3:Sl w 2 (.slice (some ⟨a2,0,none⟩) 1 1) 1 ([r12].flatMap Rl.cells)) :
  Calls Tryz.prog 13 #[pv (.slice (some ⟨a0,0,none⟩) 1 1) (.slice (some ⟨a1,0,none⟩) 1 1) (.slice (some ⟨a2,0,none⟩) 1 1) (.slice none 0 0)] w fun e w' => ∃ v R,e=.returned (.tuple #[v,.int .i64 0])∧Ex41R w' v R∧Below w.heap.size w w':=by
 obtain ⟨ps,hps⟩:=least_ex (minS [s12] [r12])
 obtain ⟨es,hes⟩:=least_ex (maxS [s12] [r12] P12 N12)
 have e1:newB (allPrins [s12] [r12] [r12] [] F12)=P12:=by kernel_rfl
 have e2:newB (allNames [s12] [r12] [r12] [])=N12:=by kernel_rfl
 have hr:=ex41_row hps hes
 have:=matq_Of (ex41_in hT h1 h2 h3) ex41_right ps es hps (by rw [e1,e2];exact hes)
 rw [e1,e2] at this
 refine this.mono ?_
 rintro e w' ⟨v,R,rfl,hs,hrow,hmap,hb⟩
 refine ⟨v,R,rfl,⟨hs,hrow,?_,?_,?_⟩,hb⟩
 ·have:=congrArg List.length hmap
  rw [List.length_map,List.length_map] at this
  rw [this];rfl
 ·intro x hx hxr
  have hm:x.s∈(allR P12 N12).map (rowM ps es (freshB P12)):=by rw [← hmap];exact List.mem_map.2 ⟨x,hx,rfl⟩
  obtain ⟨r,_,hrx⟩:=List.mem_map.1 hm
  have hrr:r=r12:=by rw [← hxr,← hrx];rfl
  rw [← hrx,hrr]
  exact hr
 ·have hm:rowM ps es (freshB P12) r12∈R.map MV.s:=by
   rw [hmap]
   exact List.mem_map.2 ⟨r12,by unfold allR P12 N12 r12;simp,rfl⟩
  obtain ⟨x,hx,hxe⟩:=List.mem_map.1 hm
  exact ⟨x,hx,by rw [hxe];rfl⟩
set_option maxRecDepth 100000 in
set_option maxHeartbeats 8000000 in
theorem law41_lives (w:World) (hT:TB w):Calls Tryz.prog 12 #[] w fun e w'=>e=.returned (.bool true)∧Below w.heap.size w w':=by
 have HTB:=Lib.hid hT
 clear hT
 go_enter Tryz.func12,Tryz.ntmps12
 go_wp2_with fail
 obtain ⟨wb,hwb⟩:∃ V,V=((((w.alloc (.cells #[.string ⟨#[65]⟩,.string ⟨#[114]⟩] 28)).alloc (.cells #[.int .i64 1,.string ⟨#[65]⟩,.string ⟨#[114]⟩,.string ⟨#[66]⟩,.string emp,.string emp,.string emp,.string emp,.string emp] 74)).alloc (.cells #[.string ⟨#[65]⟩,.string ⟨#[114]⟩] 28)).alloc (.cells #[.string ⟨#[65]⟩,.string ⟨#[114]⟩] 28)):=⟨_,rfl⟩
 have FV:=five_at w (.cells #[.string ⟨#[65]⟩,.string ⟨#[114]⟩] 28) (.cells #[.int .i64 1,.string ⟨#[65]⟩,.string ⟨#[114]⟩,.string ⟨#[66]⟩,.string emp,.string emp,.string emp,.string emp,.string emp] 74) (.cells #[.string ⟨#[65]⟩,.string ⟨#[114]⟩] 28) (.cells #[.string ⟨#[65]⟩,.string ⟨#[114]⟩] 28) (.cells #[] 28)
 rw [← hwb] at FV
 have hlow:Below w.heap.size w wb:=by rw [hwb];exact ((((Below.refl _ _).alloc (Nat.le_refl _) _).alloc (by simp) _).alloc (by simp;omega) _).alloc (by simp;omega) _
 have hbx:Below wb.heap.size wb (wb.alloc (.cells #[] 28)):=(Below.refl _ _).alloc (Nat.le_refl _) _
 have HR:=Lib.hid (show Blk wb w.heap.size #[.string ⟨#[65]⟩,.string ⟨#[114]⟩] by rw [hwb];exact (((Blk.new w _ _).alloc _).alloc _).alloc _)
 have HS1:=Lib.hid (show Sl wb 9 (.slice (some ⟨w.heap.size+1,0,none⟩) 1 1) 1 ([s12].flatMap St.cells) by
  rw [hwb]
  exact ((Sl.new (w.alloc (.cells #[.string ⟨#[65]⟩,.string ⟨#[114]⟩] 28)) ([s12].flatMap St.cells) 74 9 1 (w.heap.size+1) (by simp) rfl (by decide)).below ((Below.refl _ _).alloc (Nat.le_refl _) _)).below ((Below.refl _ _).alloc (Nat.le_refl _) _))
 have HS2:=Lib.hid (show Sl wb 2 (.slice (some ⟨w.heap.size+1+1,0,none⟩) 1 1) 1 ([r12].flatMap Rl.cells) by
  rw [hwb]
  exact (Sl.new ((w.alloc (.cells #[.string ⟨#[65]⟩,.string ⟨#[114]⟩] 28)).alloc (.cells #[.int .i64 1,.string ⟨#[65]⟩,.string ⟨#[114]⟩,.string ⟨#[66]⟩,.string emp,.string emp,.string emp,.string emp,.string emp] 74)) ([r12].flatMap Rl.cells) 28 2 1 (w.heap.size+1+1) (by simp) rfl (by decide)).below ((Below.refl _ _).alloc (Nat.le_refl _) _))
 have HS3:=Lib.hid (show Sl wb 2 (.slice (some ⟨w.heap.size+1+1+1,0,none⟩) 1 1) 1 ([r12].flatMap Rl.cells) by
  rw [hwb]
  exact Sl.new (((w.alloc (.cells #[.string ⟨#[65]⟩,.string ⟨#[114]⟩] 28)).alloc (.cells #[.int .i64 1,.string ⟨#[65]⟩,.string ⟨#[114]⟩,.string ⟨#[66]⟩,.string emp,.string emp,.string emp,.string emp,.string emp] 74)).alloc (.cells #[.string ⟨#[65]⟩,.string ⟨#[114]⟩] 28)) ([r12].flatMap Rl.cells) 28 2 1 (w.heap.size+1+1+1) (by simp) rfl (by decide))
 have OF:=Lib.hid (ex41_Of (HTB.out.below hlow) HS1.out HS2.out HS3.out)
 have HB:=Lib.hid hlow
 rw [← hwb]
 clear hwb FV hlow hbx HS1 HS2 HS3
 refine OF.out.mono ?_
 rintro e w1 ⟨v,R,rfl,hx,hb1⟩
 have HX:=Lib.hid hx
 have HR:=Lib.hid (HR.out.below hb1)
 have HB:=Lib.hid (HB.out.trans (hb1.mono HB.out.size))
 obtain ⟨va,vc,rfl⟩:=hx.sl.form
 clear hx hb1 OF
 obtain ⟨cr,fr,zr⟩:=HR.out
 go_wp2_with fail
 refine (mat_Find (.slice va R.length vc) R r12 w1 HX.out.sl.a HX.out.rows.form).mono ?_
 rintro e w2 ⟨hf,hb2⟩
 have HX:=Lib.hid (HX.out.below hb2)
 have HB:=Lib.hid (HB.out.trans (hb2.mono HB.out.size))
 clear hb2 cr fr zr
 rcases hf with ⟨_,hn⟩ | ⟨x,hx,hxr,rfl⟩
 ·obtain ⟨x,hx,hxr⟩:=HX.out.ex
  exact absurd hxr (hn x hx)
 have hxs:=HX.out.one x hx hxr
 have hok:=HX.out.rows.ok x hx
 have hfm:=HX.out.rows.form x hx
 have hba:Below w2.heap.size w2 (w2.alloc (.cells #[.string x.s.r.o,.string x.s.r.n,x.lv,x.hv,.bool x.s.op,.int .i64 x.s.k] 40)):=(Below.refl _ _).alloc (Nat.le_refl _) _
 have LN:=Lib.hid (mat_Line x _ (hok.below hba) (ex41_fits hxs))
 have hle:lineM x.s=⟨#[65,46,114,32,99,108,111,115,101,100,32,66]⟩:=by rw [hxs];exact ex41_line
 rw [hle] at LN
 clear hle
 have HB3:=Lib.hid (HB.out.trans (hba.mono HB.out.size))
 obtain ⟨⟨⟨x1,x2⟩,x3,x4,x5,x6⟩,x7,x8⟩:=x
 obtain ⟨⟨f1,f2,f3,e1⟩,⟨f4,f5,f6,e2⟩⟩:=hfm
 dsimp only at e1 e2
 subst e1 e2
 have HW:=Lib.hid (show Blk (w2.alloc (.cells #[.string x1,.string x2,.slice f1 f2 f3,.slice f4 f5 f6,.bool x5,.int .i64 x6] 40)) w2.heap.size #[.string x1,.string x2,.slice f1 f2 f3,.slice f4 f5 f6,.bool x5,.int .i64 x6] from Blk.new _ _ _)
 clear hx hxr hxs hok hba
 have h2i:((R.length:Int) == 2)=true:=by rw [HX.out.two];rfl
 go_wp2_with fail
 refine LN.out.mono ?_
 rintro e w3 ⟨rfl,hb3⟩
 have HB:=Lib.hid (HB3.out.trans (hb3.mono HB3.out.size))
 clear hb3 LN HB3
 go_wp2
 go_ret
 exact ⟨by first | rfl | simp,HB.out⟩
end
section
open Go.RowKit Go.Shelf

end
section
open Go.RowKit Go.Shelf

end
section
open Go.RowKit Go.Shelf

end
section
open Go.RowKit Go.Shelf

theorem inside_iff {a b:List ByteArray}:insideB a b=true↔∀ x∈a,x∈b:=by
 unfold insideB
 rw [List.all_eq_true]
 exact ⟨fun h x hx=>(hasB_mem b x).1 (h x hx),fun h x hx=>(hasB_mem b x).2 (h x hx)⟩
section
variable {M:Rl→List ByteArray} {q:Qv} {us:List ByteArray}
end
theorem members_same {l:List St} {ps es:List Pr} (h:LeastS l (fun r x=>(r,x)∈ps)) (g:LeastS l (fun r x=>(r,x)∈es)):membersP ps=membersP es:=by
 funext r
 exact asc_uniqueB _ _ (membersP_asc _ _) (membersP_asc _ _) (fun y=>⟨fun hy=>inside_iff.1 (members_mono h g (fun _ h=>h) r) y hy,fun hy=>inside_iff.1 (members_mono g h (fun _ h=>h) r) y hy⟩)
section
variable {w:World} {v0 v1 v2 v3:Value} {l c:List St} {g h:List Rl} {qs:List Qv} {q:Qv} {us PS NS:List ByteArray}
end
end
section
open Go.RowKit Go.Shelf

theorem asc_nd {l:List ByteArray} (h:AscB l):l.Nodup:=by
 refine List.Pairwise.imp (fun {a b} hab e=>?_) h
 subst e
 have:=(cmpS_zero a a).2 rfl
 omega
theorem least_sound {l:List St} {ps:List Pr} (h:LeastS l (fun r x=>(r,x)∈ps)):SoundS l ps:=fun E hE p hp=>h.min E hE p.1 p.2 hp
theorem mems_in {l:List St} {A B:List ByteArray} {ps:List Pr} (h:∀ s∈l,InAB A B s) (hp:LeastS l (fun r x=>(r,x)∈ps)) (r:Rl):(∀ y∈membersP ps r,y∈A)∧(membersP ps r).length≤A.length:=by
 have h1:∀ y∈membersP ps r,y∈A:=fun y hy=>(sound_in h (least_sound hp) (r,y) (membersP_mem.1 hy)).2
 exact ⟨h1,nodup_le _ _ (asc_nd (membersP_asc ps r)) h1⟩
section
variable {w:World} {v0 v1 v2 v3:Value} {l:List St} {g h:List Rl} {qs:List Qv} {F:Qv→List ByteArray} {PS NS:List ByteArray}
theorem PolX.minIn (P:PolX w v0 v1 v2 v3 l g h qs F PS NS):∀ s∈minS l h,InAB PS NS s:=fun s hs=>P.inAB s (List.mem_filter.1 hs).1
theorem PolX.maxIn (P:PolX w v0 v1 v2 v3 l g h qs F PS NS):∀ s∈maxS l g PS NS,InAB (putX PS) NS s:=maxS_in P.inAB
theorem PolX.sizeP (P:PolX w v0 v1 v2 v3 l g h qs F PS NS) (h6:PS.length≤16):∀ y∈putX PS,y.size≤8:=fun y hy=>by
 rcases putX_mem.1 hy with hy | rfl
 ·exact isP_size (P.rP y hy)
 ·exact isP_size (fresh_prin h6)
theorem row_fits (P:PolX w v0 v1 v2 v3 l g h qs F PS NS) (h6:PS.length≤16) {ps es:List Pr} (hps:LeastS (minS l h) (fun r x=>(r,x)∈ps)) (hes:LeastS (maxS l g PS NS) (fun r x=>(r,x)∈es)) {X:ByteArray} {q:Rl} (hq:q∈allR PS NS) {x:MV} (hx:x.s=rowM ps es X q):(1≤x.s.k∧x.s.k≤4)∧x.fits:=by
 obtain ⟨hqo,hqn⟩:=allR_mem.1 hq
 have h1:=mems_in P.minIn hps q
 have h2:=mems_in P.maxIn hes q
 have hpx:=putX_len PS
 have s1:=P.sizeP h6
 have hk:1≤(rowM ps es X q).k∧(rowM ps es X q).k≤4:=by
  show 1≤kindM _ _ _∧kindM _ _ _≤4
  unfold kindM
  split
  ·decide
  split
  ·decide
  split <;> decide
 refine ⟨by rw [hx];exact hk,?_⟩
 refine ⟨?_,?_,?_,?_,?_⟩ <;> rw [hx]
 ·exact ⟨Nat.le_trans (isP_size (P.rP _ hqo)) (by decide),Nat.le_trans (isP_size (P.rN _ hqn)) (by decide)⟩
 ·exact fun s hs=>Nat.le_trans (isP_size (P.rP s (h1.1 s hs))) (by decide)
 ·exact fun s hs=>Nat.le_trans (s1 s (h2.1 s (List.mem_filter.1 hs).1)) (by decide)
 ·have:=h1.2
  show (membersP ps q).length≤60
  omega
 ·have:=h2.2
  have h3:=List.length_filter_le (fun y => !decide (y=X)) (membersP es q)
  show ((membersP es q).filter _).length≤60
  omega
end
end
section
open Go.RowKit Go.Shelf

def mv0:MV:=⟨⟨noR,[],[],false,0⟩,.slice none 0 0,.slice none 0 0⟩
theorem find_one {R:List MV} {r:Rl} {e:Ending} (h:FindP R r e) (hf:∀ x∈R,x.form):∃ (x:MV) (ok:Bool),e=.returned (.tuple #[mv x,.bool ok])∧x.form∧(ok=true→x∈R∧x.s.r=r)∧(ok=false→∀ y∈R,¬ y.s.r=r):=by
 rcases h with ⟨rfl,hn⟩ | ⟨x,hx,hr,rfl⟩
 ·exact ⟨mv0,false,rfl,⟨⟨_,_,_,rfl⟩,⟨_,_,_,rfl⟩⟩,fun h=>(by cases h),fun _=>hn⟩
 ·exact ⟨x,true,rfl,hf x hx,fun _=>⟨hx,hr⟩,fun h=>(by cases h)⟩
theorem rowM_same {ps ps' es es':List Pr} (h1:membersP ps=membersP ps') (h2:membersP es=membersP es'):rowM ps es=rowM ps' es':=by
 funext X r
 unfold rowM
 rw [h1,h2]
theorem cnt_arr (R:List MR) (j:Nat) (hj:j < R.length) (kk:Nat) (hk:R[j].k=(kk:Int)) (h14:1≤kk∧kk≤4) :
  (arrOf 5 (fun i=>.int .i64 (cntM (R.take j) (i:Int):Nat))).setIfInBounds kk (.int .i64 (cntM (R.take j) (kk:Int)+1:Nat))=arrOf 5 (fun i=>.int .i64 (cntM (R.take (j+1)) (i:Int):Nat)):=by
 rw [arrOf_set _ _ _ _ (by omega)]
 refine arrOf_congr (fun i hi=>?_)
 have hc:clsM R[j].k=(kk:Int):=by rw [hk];unfold clsM;rw [if_pos (by omega)]
 rw [cnt_snoc hj,hc]
 by_cases e:i=kk
 ·subst e;rw [if_pos rfl,if_pos rfl]
 ·rw [if_neg e,if_neg (by omega),Nat.add_zero]
set_option maxRecDepth 100000 in
set_option maxHeartbeats 32000000 in
theorem law41_MatrixTells (v0 v1 v2 v3:Value) (l:List St) (g h:List Rl) (qs:List Qv) (r:Rl) (w:World) (hp:PolAt w v0 v1 v2 v3 l g h qs) (hT:TB w) :
  Calls Tryz.prog 3 #[pv v0 v1 v2 v3,rv r] w fun e w'=>e=.returned (.bool true)∧Below w.heap.size w w':=by
 have HL:=Lib.hid (fun W hb=>law41_lives W (hT.below (w':=W) hb))
 have LP:=Lib.hid (fun W hb=>law5_LightS v0 v1 v2 v3 l g h qs W (hp.below (w':=W) hb))
 have HP:=Lib.hid hp
 have HTB:=Lib.hid hT
 obtain ⟨a0,c0,rfl⟩:=hp.rs.form
 obtain ⟨a1,c1,rfl⟩:=hp.rg.form
 obtain ⟨a2,c2,rfl⟩:=hp.rh.form
 obtain ⟨a3,c3,rfl⟩:=hp.rq.form
 obtain ⟨r1,r2⟩:=r
 have HT:=Lib.hid (show TwoAt w #[.slice a0 l.length c0,.slice a1 g.length c1,.slice a2 h.length c2,.slice a3 qs.length c3] #[.string r1,.string r2] ((w.alloc (.cells #[.slice a0 l.length c0,.slice a1 g.length c1,.slice a2 h.length c2,.slice a3 qs.length c3] 26)).alloc (.cells #[.string r1,.string r2] 28))
  from ⟨(Blk.new w _ _).alloc _,(by have:=Blk.new (w.alloc (.cells #[.slice a0 l.length c0,.slice a1 g.length c1,.slice a2 h.length c2,.slice a3 qs.length c3] 26)) #[.string r1,.string r2] 28;simpa using this),((Below.refl _ _).alloc (Nat.le_refl _) _).alloc (by simp) _⟩)
 clear hp hT
 go_enter Tryz.func3,Tryz.ntmps3
 go_upto_region 1 with fail
 obtain ⟨wk,hwk⟩:∃ W,W=((w.alloc (.cells #[.slice a0 l.length c0,.slice a1 g.length c1,.slice a2 h.length c2,.slice a3 qs.length c3] 26)).alloc (.cells #[.string r1,.string r2] 28)):=⟨_,rfl⟩
 rw [← hwk] at HT ⊢
 clear hwk
 obtain ⟨ca,fa,za⟩:=HT.out.a
 go_wp2_with fail
 refine (LP.out _ HT.out.low).mono ?_
 rintro e w1 ⟨⟨bp,rfl,hlp⟩,hb1⟩
 have HT:=Lib.hid (HT.out.later hb1)
 have HLP:=Lib.hid hlp
 clear hlp hb1 LP ca fa za
 cases bp with
 | false =>
  go_wp2_with fail
  refine (HL.out _ HT.out.low).mono ?_
  rintro e wl ⟨rfl,hbl⟩
  have TL:=Lib.hid (HT.out.later hbl)
  clear hbl
  go_wp2
  go_ret
  exact ⟨rfl,TL.out.low⟩
 | true =>
 obtain ⟨⟨hl30,hg30,hh30,hq30,hl40,hqk⟩,hgh⟩:=HLP.out (by first | rfl | trivial)
 obtain ⟨F,hF,hFs⟩:=who_ex2 HP.out.lq (fun x hx=>(hqk x hx).1)
 have HMQ:=Lib.hid (show MatQ w (.slice a0 l.length c0) (.slice a1 g.length c1) (.slice a2 h.length c2) (.slice a3 qs.length c3) l g h qs F from ⟨HP.out,hl30,hg30,hh30,hq30,hl40,hgh,fun q hq=>(hqk q hq).2,hF,hFs,HTB.out⟩)
 clear HLP hqk hgh hF hFs hl40 HP HTB
 obtain ⟨ca,fa,za⟩:=HT.out.a
 by_cases hRR:RightP l g h qs F
 ·obtain ⟨ps,hps⟩:=least_ex (minS l h)
  obtain ⟨es,hes⟩:=least_ex (maxS l g (newB (allPrins l g h qs F)) (newB (allNames l g h qs)))
  have OF:=Lib.hid (matq_Of (HMQ.out.below HT.out.low) hRR ps es hps hes)
  have HRP:=Lib.hid hRR
  have HPS:=Lib.hid hps
  have HES:=Lib.hid hes
  clear hRR hps hes
  go_wp2_with fail
  refine OF.out.mono ?_
  rintro e w2 ⟨v,R,rfl,hsl,hrow,hmap,hb2⟩
  have HT:=Lib.hid (HT.out.later hb2)
  have HSL:=Lib.hid hsl
  have HRO:=Lib.hid hrow
  have HMAP:=Lib.hid hmap
  obtain ⟨va,vc,rfl⟩:=hsl.form
  clear hsl hrow hmap hb2 OF ca fa za
  obtain ⟨ca,fa,za⟩:=HT.out.a
  go_wp2_with fail
  refine (matq_Ref (HMQ.out.below HT.out.low)).mono ?_
  rintro e w3 ⟨⟨b,rfl,hi⟩,hb3⟩
  have hbt:b=true:=hi.2 HRP.out
  subst hbt
  have HT:=Lib.hid (HT.out.later hb3)
  have HSL:=Lib.hid (HSL.out.below hb3)
  have HRO:=Lib.hid (HRO.out.below hb3)
  clear hi hb3 ca fa za
  obtain ⟨ca,fa,za⟩:=HT.out.a
  go_wp2_with fail
  refine (law41_small (HMQ.out.below HT.out.low)).mono ?_
  rintro e w4 ⟨⟨b,rfl,hsm⟩,hb4⟩
  have HT:=Lib.hid (HT.out.later hb4)
  have HSL:=Lib.hid (HSL.out.below hb4)
  have HRO:=Lib.hid (HRO.out.below hb4)
  have HSM:=Lib.hid hsm
  clear hb4 hsm ca fa za
  cases b with
  | false =>
   go_wp2_with fail
   refine (HL.out _ HT.out.low).mono ?_
   rintro e wl ⟨rfl,hbl⟩
   have TL:=Lib.hid (HT.out.later hbl)
   clear hbl
   go_wp2
   go_ret
   exact ⟨rfl,TL.out.low⟩
  | true =>
  obtain ⟨_,h5,h4⟩:=HSM.out (by first | rfl | trivial)
  have RO:=Lib.hid (ref41_Of ((HMQ.out.below HT.out.low).polx HRP.out) h5 h4)
  have hAR:(allR (newB (allPrins l g h qs F)) (newB (allNames l g h qs))).length≤20:=by rw [allR_len];exact Nat.mul_le_mul h5 h4
  clear h5 h4 HSM
  obtain ⟨ca,fa,za⟩:=HT.out.a
  go_wp2_with fail
  refine RO.out.mono ?_
  rintro e w5 ⟨v',ps',es',R',rfl,hps',hes',hsl',hrow',hmap',hb5⟩
  have hsame:rowM ps' es'=rowM ps es:=rowM_same (members_same hps' HPS.out) (members_same hes' HES.out)
  rw [hsame,← HMAP.out] at hmap'
  have HT:=Lib.hid (HT.out.later hb5)
  have HSL:=Lib.hid (HSL.out.below hb5)
  have HRO:=Lib.hid (HRO.out.below hb5)
  have HSL':=Lib.hid hsl'
  have HRO':=Lib.hid hrow'
  have HEQ:=Lib.hid hmap'
  have HZ5:=Lib.hid HT.out.b.2.2
  have HUN:=Lib.hid (show ∀ x∈R,x.s=rowM ps es (freshB (newB (allPrins l g h qs F))) x.s.r from fun x hx=>by
   have hm:x.s∈R.map MV.s:=List.mem_map.2 ⟨x,hx,rfl⟩
   rw [HMAP.out] at hm
   obtain ⟨q,_,hq⟩:=List.mem_map.1 hm
   rw [← hq];rfl)
  have hlen:R'.length=R.length:=by have:=congrArg List.length hmap';rw [List.length_map,List.length_map] at this;exact this
  have hRl:R.length≤20:=by have:=congrArg List.length HMAP.out;rw [List.length_map,List.length_map] at this;omega
  have HFT:=Lib.hid (show ∀ x∈R,(1≤x.s.k∧x.s.k≤4)∧x.fits from fun x hx=>by
   have hm:x.s∈R.map MV.s:=List.mem_map.2 ⟨x,hx,rfl⟩
   rw [HMAP.out] at hm
   obtain ⟨q,hqa,hq⟩:=List.mem_map.1 hm
   exact row_fits (HMQ.out.polx HRP.out) HRP.out.good.ps HPS.out HES.out hqa hq.symm)
  obtain ⟨va',vc',rfl⟩:=hsl'.form
  rw [hlen]
  clear hps' hes' hsl' hrow' hmap' hsame hb5 RO HPS HES HMAP HRP hAR ca fa za
  go_upto_region 12 with fail
  obtain ⟨W8,hW8⟩:∃ W,W=w5.alloc (.cells #[.int .i64 0,.int .i64 0,.int .i64 0,.int .i64 0,.int .i64 0] 37):=⟨_,rfl⟩
  have hb8:Below w5.heap.size w5 W8:=by rw [hW8];exact (Below.refl _ _).alloc (Nat.le_refl _) _
  have HN8:=Lib.hid (show Blk W8 w5.heap.size (arrOf 5 (fun i=>.int .i64 (cntM ((R.map MV.s).take 0) (i:Int):Nat))) by rw [hW8];exact Blk.new w5 _ _)
  have HT:=Lib.hid (HT.out.later hb8)
  have HB8:=Lib.hid hb8
  rw [← hW8]
  clear hW8 hb8
  obtain ⟨cb,fb,zb⟩:=HT.out.b
  go_wp2_with fail
  refine (mat_Find (.slice va R.length vc) R ⟨r1,r2⟩ W8 (HSL.out.below HB8.out).a HRO.out.form).mono ?_
  rintro e w9 ⟨hf,hb9⟩
  obtain ⟨x,okb,rfl,hxf,hyes,hno⟩:=find_one hf HRO.out.form
  have HT:=Lib.hid (HT.out.later hb9)
  have HN9:=Lib.hid (HN8.out.below hb9)
  have HB9:=Lib.hid (HB8.out.trans (hb9.mono HB8.out.size))
  clear hb9 hf HN8 HB8 cb fb zb
  have HYES:=Lib.hid hyes
  have HNO:=Lib.hid hno
  obtain ⟨⟨⟨x1,x2⟩,x3,x4,x5,x6⟩,x7,x8⟩:=x
  obtain ⟨⟨f1,f2,f3,e1⟩,⟨f4,f5,f6,e2⟩⟩:=hxf
  dsimp only at e1 e2
  subst e1 e2
  clear hyes hno
  go_upto_region 13 with fail
  obtain ⟨WA,hWA⟩:∃ W,W=w9.alloc (.cells #[.string x1,.string x2,.slice f1 f2 f3,.slice f4 f5 f6,.bool x5,.int .i64 x6] 40):=⟨_,rfl⟩
  obtain ⟨G9,hG9⟩:∃ n,n=w9.heap.size:=⟨_,rfl⟩
  have hbA:Below w9.heap.size w9 WA:=by rw [hWA];exact (Below.refl _ _).alloc (Nat.le_refl _) _
  have HXA:=Lib.hid (show Blk WA G9 #[.string x1,.string x2,.slice f1 f2 f3,.slice f4 f5 f6,.bool x5,.int .i64 x6] by rw [hWA,hG9];exact Blk.new w9 _ _)
  have HNA:=Lib.hid (HN9.out.below hbA)
  have HTA:=HT.out.later hbA
  have HBA:=Lib.hid (HB9.out.trans (hbA.mono HB9.out.size))
  have hne:w5.heap.size < G9:=by rw [hG9];exact HN9.out.2.2
  rw [← hWA,← hG9]
  clear hWA hG9 hbA HN9 HB9
  have HLN:=Lib.hid hlen
  have hz5:w.heap.size+1 < w5.heap.size:=HZ5.out
  clear hlen
  have HT:=Lib.hid (show TwoAt w #[.slice a0 l.length c0,.slice a1 g.length c1,.slice a2 h.length c2,.slice a3 qs.length c3] #[.string r1,.string r2] WA from HTA)
  go_wp2_with fail
  go_loopw [11,58] (fun isv i wr => ∃ (j:Nat) (b:Bool),j≤R.length∧i=.int .i64 j∧isv=.bool b∧Hid (b=(R.take j).any (fun y=>eqRl y.s.r ⟨r1,r2⟩))∧Hid (TwoAt w #[.slice a0 l.length c0,.slice a1 g.length c1,.slice a2 h.length c2,.slice a3 qs.length c3] #[.string r1,.string r2] wr)∧Hid (Below w5.heap.size w5 wr)∧Hid (Blk wr w5.heap.size (arrOf 5 (fun i=>.int .i64 (cntM ((R.map MV.s).take j) (i:Int):Nat))))∧Hid (Blk wr G9 #[.string x1,.string x2,.slice f1 f2 f3,.slice f4 f5 f6,.bool x5,.int .i64 x6])) (fun _ i _=>R.length - (intOf i).toNat)
  case atStart=>exact ⟨0,false,by omega,rfl,rfl,Lib.hid rfl,HT,HBA,HNA,HXA⟩
  case round =>
   clear HT HBA HNA HXA
   obtain ⟨j,b,hj,rfl,rfl,HIS,HT,HBW,HN,HX⟩:=hrel
   by_cases hlt:j < R.length
   ·have hlt':j < R'.length:=by rw [HLN.out];exact hlt
    obtain ⟨b1,o1,c1',he1,hc1,hm1,hb1,hx1⟩:=HSL.out.pos (by omega)
    simp only [Value.slice.injEq,true_and] at he1
    obtain ⟨rfl,rfl⟩:=he1
    obtain ⟨p0,p1,p2,p3,p4,p5⟩:=mv_cell hx1 j hlt
    obtain ⟨b2,o2,c2',he2,hc2,hm2,hb2,hx2⟩:=HSL'.out.pos (by omega)
    simp only [Value.slice.injEq,true_and] at he2
    obtain ⟨rfl,rfl⟩:=he2
    obtain ⟨q0,q1,q2,q3,q4,q5⟩:=mv_cell hx2 j hlt'
    have hss:R'[j].s=R[j].s:=by
     have h1:(R'.map MV.s)[j]? = (R.map MV.s)[j]? := by rw [HEQ.out]
     rw [List.getElem?_map,List.getElem?_map,List.getElem?_eq_getElem hlt,List.getElem?_eq_getElem hlt'] at h1
     exact Option.some.inj h1
    have hy:=List.getElem_mem hlt
    have hy':=List.getElem_mem hlt'
    have hfm:=HRO.out.form _ hy
    have hfm':=HRO'.out.form _ hy'
    have hft:=HFT.out _ hy
    have hk14:=hft.1
    have HUY:=Lib.hid (HUN.out _ hy)
    have HYM:=Lib.hid hy
    have OK1:=Lib.hid (HRO.out.ok _ hy)
    have OK2:=Lib.hid (HRO'.out.ok _ hy')
    have HCA:=Lib.hid (fun kk h1 h2=>cnt_arr (R.map MV.s) j (by rw [List.length_map];exact hlt) kk (by rw [List.getElem_map];exact h1) h2)
    have HNX:=Lib.hid (show (R.take (j+1)).any (fun y=>eqRl y.s.r ⟨r1,r2⟩)=((R.take j).any (fun y=>eqRl y.s.r ⟨r1,r2⟩) || eqRl R[j].s.r ⟨r1,r2⟩) by rw [List.take_succ_eq_append_getElem hlt,List.any_append];simp)
    clear hx1 hx2 hy hy'
    generalize R[j]=y at *
    generalize R'[j]=y' at *
    obtain ⟨⟨⟨y1,y2⟩,ylo,yhi,op,k⟩,ylv,yhv⟩:=y
    obtain ⟨ys',ylv',yhv'⟩:=y'
    obtain ⟨⟨g1,g2,g3,e1⟩,⟨g4,g5,g6,e2⟩⟩:=hfm
    obtain ⟨⟨k1,k2,k3,e3⟩,⟨k4,k5,k6,e4⟩⟩:=hfm'
    dsimp only at e1 e2 e3 e4 hss hk14 p0 p1 p2 p3 p4 p5 HNX HCA
    subst hss e1 e2 e3 e4
    dsimp only at q0 q1 q2 q3 q4 q5
    obtain ⟨kk,rfl⟩:∃ kk:Nat,k=(kk:Int):=⟨k.toNat,by omega⟩
    have HCA:=Lib.hid (HCA.out kk rfl (by omega))
    have HFY:=Lib.hid hft.2
    clear hft
    obtain ⟨cn,hcn⟩:∃ c,cntM ((R.map MV.s).take j) (kk:Int)=c:=⟨_,rfl⟩
    have hcl:cn≤20:=by have h1:=cnt_le ((R.map MV.s).take j) (kk:Int);have h2:=List.length_take_le j (R.map MV.s);rw [hcn] at h1;omega
    rw [hcn] at HCA
    have hk1:1≤kk∧kk≤4:=by omega
    have SP:=Lib.hid (show ∀ W,Below w5.heap.size w5 W→(W.cell? ⟨b1,o1+j * 6,none⟩=some (.string y1)∧W.cell? ⟨b1,o1+j * 6+1,none⟩=some (.string y2)∧W.cell? ⟨b1,o1+j * 6+2,none⟩=some (.slice g1 g2 g3)∧W.cell? ⟨b1,o1+j * 6+3,none⟩=some (.slice g4 g5 g6)∧W.cell? ⟨b1,o1+j * 6+4,none⟩=some (.bool op)∧W.cell? ⟨b1,o1+j * 6+5,none⟩=some (.int .i64 (kk:Nat)))∧(W.cell? ⟨b2,o2+j * 6,none⟩=some (.string y1)∧W.cell? ⟨b2,o2+j * 6+1,none⟩=some (.string y2)∧W.cell? ⟨b2,o2+j * 6+2,none⟩=some (.slice k1 k2 k3)∧W.cell? ⟨b2,o2+j * 6+3,none⟩=some (.slice k4 k5 k6)∧W.cell? ⟨b2,o2+j * 6+4,none⟩=some (.bool op)∧W.cell? ⟨b2,o2+j * 6+5,none⟩=some (.int .i64 (kk:Nat))) from fun W hb =>
     ⟨⟨(hb.cell (p:=⟨b1,_,none⟩) hb1).trans p0,(hb.cell (p:=⟨b1,_,none⟩) hb1).trans p1,(hb.cell (p:=⟨b1,_,none⟩) hb1).trans p2,(hb.cell (p:=⟨b1,_,none⟩) hb1).trans p3,(hb.cell (p:=⟨b1,_,none⟩) hb1).trans p4,(hb.cell (p:=⟨b1,_,none⟩) hb1).trans p5⟩,
     ⟨(hb.cell (p:=⟨b2,_,none⟩) hb2).trans q0,(hb.cell (p:=⟨b2,_,none⟩) hb2).trans q1,(hb.cell (p:=⟨b2,_,none⟩) hb2).trans q2,(hb.cell (p:=⟨b2,_,none⟩) hb2).trans q3,(hb.cell (p:=⟨b2,_,none⟩) hb2).trans q4,(hb.cell (p:=⟨b2,_,none⟩) hb2).trans q5⟩⟩)
    clear p0 p1 p2 p3 p4 p5 q0 q1 q2 q3 q4 q5
    have hbz:b1 < wr.heap.size:=Nat.lt_of_lt_of_le hb1 HBW.out.size
    have hbz2:b2 < wr.heap.size:=Nat.lt_of_lt_of_le hb2 HBW.out.size
    go_wp2_with fail
    have hd:=below_drew (Below.refl wr.heap.size wr)
    refine wp_region_held_drew (S:=(fun W=>(W.cell? ⟨b1,o1+j * 6,none⟩=some (.string y1)∧W.cell? ⟨b1,o1+j * 6+1,none⟩=some (.string y2)∧W.cell? ⟨b1,o1+j * 6+2,none⟩=some (.slice g1 g2 g3)∧W.cell? ⟨b1,o1+j * 6+3,none⟩=some (.slice g4 g5 g6)∧W.cell? ⟨b1,o1+j * 6+4,none⟩=some (.bool op)∧W.cell? ⟨b1,o1+j * 6+5,none⟩=some (.int .i64 (kk:Nat)))∧(W.cell? ⟨b2,o2+j * 6,none⟩=some (.string y1)∧W.cell? ⟨b2,o2+j * 6+1,none⟩=some (.string y2)∧W.cell? ⟨b2,o2+j * 6+2,none⟩=some (.slice k1 k2 k3)∧W.cell? ⟨b2,o2+j * 6+3,none⟩=some (.slice k4 k5 k6)∧W.cell? ⟨b2,o2+j * 6+4,none⟩=some (.bool op)∧W.cell? ⟨b2,o2+j * 6+5,none⟩=some (.int .i64 (kk:Nat))))) (by kernel_rfl) (SP.out _ (HBW.out.trans (hd.mono HBW.out.size))) (fun hHeld=>?_)
    have HT:=Lib.hid (HT.out.later hd)
    have HBW:=Lib.hid (HBW.out.trans (hd.mono HBW.out.size))
    have HN:=Lib.hid (HN.out.below hd)
    have HX:=Lib.hid (HX.out.below hd)
    obtain ⟨wk,hwk⟩:∃ W,W=wr.drew:=⟨_,rfl⟩
    rw [← hwk] at HT HBW HN HX hHeld ⊢
    clear hwk hd hbz hbz2
    (refine hyes 0 ?_);(refine hyes 1 ?_);(refine hyes 2 ?_);(refine hyes 3 ?_);(refine hyes 4 ?_);(refine hyes 5 ?_);(refine hyes 6 ?_);(refine hyes 7 ?_);(try simp only [Act.put,List.setIfInBounds_toArray,List.set])
    (refine held_call 8 rfl (by kernel_rfl) (fun K hK=>?_);go_simp)
    go_at_call 18;refine (ref41_SameT ⟨⟨y1,y2⟩,ylo,yhi,op,(kk:Int)⟩ (.slice g1 g2 g3) (.slice g4 g5 g6) (.slice k1 k2 k3) (.slice k4 k5 k6) _ (OK1.out.below HBW.out) (OK2.out.below HBW.out)).mono ?_;rintro e wz8 ⟨rfl,hbq⟩
    have HT:=Lib.hid (HT.out.later hbq)
    have HBW:=Lib.hid (HBW.out.trans (hbq.mono HBW.out.size))
    have HN:=Lib.hid (HN.out.below hbq)
    have HX:=Lib.hid (HX.out.below hbq)
    clear hbq
    (refine hK.out _ _ (SP.out _ HBW.out) (fun hHeld=>?_);clear hK K;(try simp only [Act.put,List.setIfInBounds_toArray,List.set]))
    (refine hyes 9 ?_);(refine hyes 10 ?_);(refine hyes 11 ?_);(refine hyes 12 ?_);(refine hyes 13 ?_);(refine hyes 14 ?_);(refine hyes 16 ?_);(refine hyes 17 ?_);(refine hyes 18 ?_);(refine hyes 19 ?_);(try simp only [Act.put,List.setIfInBounds_toArray,List.set])
    (refine held_call 15 rfl (by kernel_rfl) (fun K hK=>?_);go_simp)
    go_at_call 19;refine (mat_Line ⟨⟨⟨y1,y2⟩,ylo,yhi,op,(kk:Int)⟩,.slice g1 g2 g3,.slice g4 g5 g6⟩ _ (OK1.out.below HBW.out) HFY.out).mono ?_;rintro e wz15 ⟨rfl,hbq⟩
    have HT:=Lib.hid (HT.out.later hbq)
    have HBW:=Lib.hid (HBW.out.trans (hbq.mono HBW.out.size))
    have HN:=Lib.hid (HN.out.below hbq)
    have HX:=Lib.hid (HX.out.below hbq)
    clear hbq
    (refine hK.out _ _ (SP.out _ HBW.out) (fun hHeld=>?_);clear hK K;(try simp only [Act.put,List.setIfInBounds_toArray,List.set]))
    (refine held_call 20 rfl (by kernel_rfl) (fun K hK=>?_);go_simp)
    go_at_call 20;refine (ref41_Line ⟨⟨⟨y1,y2⟩,ylo,yhi,op,(kk:Int)⟩,.slice k1 k2 k3,.slice k4 k5 k6⟩ _ (OK2.out.below HBW.out) (⟨HFY.out.r,HFY.out.lo,HFY.out.hi,HFY.out.ll,HFY.out.hl⟩)).mono ?_;rintro e wz20 ⟨rfl,hbq⟩
    have HT:=Lib.hid (HT.out.later hbq)
    have HBW:=Lib.hid (HBW.out.trans (hbq.mono HBW.out.size))
    have HN:=Lib.hid (HN.out.below hbq)
    have HX:=Lib.hid (HX.out.below hbq)
    clear hbq
    (refine hK.out _ _ (SP.out _ HBW.out) (fun hHeld=>?_);clear hK K;(try simp only [Act.put,List.setIfInBounds_toArray,List.set]))
    (refine hyes 21 ?_);(refine hyes 22 ?_);(try simp only [Act.put,List.setIfInBounds_toArray,List.set])
    refine wpAnyH_done (by kernel_rfl) ?_ _
    clear hHeld
    obtain ⟨⟨p0,p1,p2,p3,p4,p5⟩,⟨q0,q1,q2,q3,q4,q5⟩⟩:=SP.out _ HBW.out
    have c8:wz20.cell? ⟨w5.heap.size,kk,none⟩=some (.int .i64 (cn:Nat)):=by rw [HN.out.1,arrOf_get,if_pos (by omega),hcn]
    have f8:=HN.out.2.1 kk
    have z8:=HN.out.2.2
    go_upto_region 20 with fail
    obtain ⟨W2,hW2⟩:∃ W,W=wz20.setCell ⟨w5.heap.size,kk,none⟩ (.int .i64 ((cn:Int)+1)):=⟨_,rfl⟩
    rw [← hW2]
    have ecn:((cn+1:Nat):Int)=(cn:Int)+1:=by omega
    rw [ecn] at HCA
    have HN:=Lib.hid (show Blk W2 w5.heap.size (arrOf 5 (fun i=>.int .i64 (cntM ((R.map MV.s).take (j+1)) (i:Int):Nat))) by rw [hW2,← HCA.out];exact HN.out.put (by rw [arrOf_size];omega))
    have HT:=Lib.hid (show TwoAt w #[.slice a0 l.length c0,.slice a1 g.length c1,.slice a2 h.length c2,.slice a3 qs.length c3] #[.string r1,.string r2] W2 by rw [hW2];exact ⟨HT.out.a.far (by omega),HT.out.b.far (by omega),below_put HT.out.low (by omega)⟩)
    have HX:=Lib.hid (show Blk W2 G9 #[.string x1,.string x2,.slice f1 f2 f3,.slice f4 f5 f6,.bool x5,.int .i64 x6] by rw [hW2];exact HX.out.far (by omega))
    have HBW:=Lib.hid (show Below w5.heap.size w5 W2 by rw [hW2];exact below_put HBW.out (Nat.le_refl _))
    clear hW2 ecn HCA c8 f8 z8 p0 p1 p2 p3 p4 p5 q0 q1 q2 q3 q4 q5
    obtain ⟨⟨p0,p1,p2,p3,p4,p5⟩,⟨q0,q1,q2,q3,q4,q5⟩⟩:=SP.out _ HBW.out
    have hbz:b1 < W2.heap.size:=Nat.lt_of_lt_of_le hb1 HBW.out.size
    have hbz2:b2 < W2.heap.size:=Nat.lt_of_lt_of_le hb2 HBW.out.size
    obtain ⟨cb,fb,zb⟩:=HT.out.b
    have hEq:=role_eql
    by_cases hr:(⟨y1,y2⟩:Rl)=⟨r1,r2⟩
    ·have d1:eqRl ⟨y1,y2⟩ ⟨r1,r2⟩=true:=decide_eq_true hr
     have HI2:=Lib.hid (show true=(R.take (j+1)).any (fun y=>eqRl y.s.r ⟨r1,r2⟩) by rw [HNX.out,d1,Bool.or_true])
     have HRR:=Lib.hid hr
     clear hr
     go_wp2_with fail
     go_big_quiet (fail)
     clear p0 p1 p2 p3 p4 p5 q0 q1 q2 q3 q4 q5 cb fb zb hbz hbz2
     obtain ⟨W3,hW3⟩:∃ W,W=W2.drewN nq:=⟨_,rfl⟩
     have hb3:Below W2.heap.size W2 W3:=by rw [hW3];exact below_of_drewN nq
     have HT:=Lib.hid (HT.out.later hb3)
     have HBW:=Lib.hid (HBW.out.trans (hb3.mono HBW.out.size))
     have HN:=Lib.hid (HN.out.below hb3)
     have HX:=Lib.hid (HX.out.below hb3)
     rw [← hW3]
     clear hW3 hb3
     have hok:okb=true:=by
      cases okb with
      | true=>rfl
      | false=>exact absurd HRR.out (HNO.out rfl _ HYM.out)
     obtain ⟨hxR,hxr⟩:=HYES.out hok
     have hxs:(⟨⟨x1,x2⟩,x3,x4,x5,x6⟩:MR)=⟨⟨y1,y2⟩,ylo,yhi,op,(kk:Int)⟩:=by
      have h1:=HUN.out _ hxR
      have h2:=HUY.out
      have h3:=HRR.out
      dsimp only at h1 h2 hxr
      exact h1.trans (by rw [hxr,← h3];exact h2.symm)
     have XOK:=Lib.hid (HRO.out.ok _ hxR)
     simp only [MR.mk.injEq,Rl.mk.injEq] at hxs
     obtain ⟨⟨rfl,rfl⟩,rfl,rfl,rfl,rfl⟩:=hxs
     clear hxR hxr hok
     go_wp2_with fail
     have hd:=below_drew (Below.refl W3.heap.size W3)
     refine wp_region_held_drew (S:=(fun W=>(∀ o,W.cell? ⟨G9,o,none⟩=(#[.string x1,.string x2,.slice f1 f2 f3,.slice f4 f5 f6,.bool x5,.int .i64 (kk:Nat)]:Array Value)[o]?)∧(W.cell? ⟨b2,o2+j * 6,none⟩=some (.string x1)∧W.cell? ⟨b2,o2+j * 6+1,none⟩=some (.string x2)∧W.cell? ⟨b2,o2+j * 6+2,none⟩=some (.slice k1 k2 k3)∧W.cell? ⟨b2,o2+j * 6+3,none⟩=some (.slice k4 k5 k6)∧W.cell? ⟨b2,o2+j * 6+4,none⟩=some (.bool x5)∧W.cell? ⟨b2,o2+j * 6+5,none⟩=some (.int .i64 (kk:Nat))))) (by kernel_rfl) ⟨(HX.out.below hd).1,(SP.out _ (HBW.out.trans (hd.mono HBW.out.size))).2⟩ (fun hHeld=>?_)
     have HT:=Lib.hid (HT.out.later hd)
     have HBW:=Lib.hid (HBW.out.trans (hd.mono HBW.out.size))
     have HN:=Lib.hid (HN.out.below hd)
     have HX:=Lib.hid (HX.out.below hd)
     obtain ⟨wk,hwk⟩:∃ W,W=W3.drew:=⟨_,rfl⟩
     rw [← hwk] at HT HBW HN HX hHeld ⊢
     clear hwk hd
     (refine hyes 0 ?_);(refine hyes 1 ?_);(refine hyes 2 ?_);(refine hyes 3 ?_);(refine hyes 4 ?_);(try simp only [Act.put,List.setIfInBounds_toArray,List.set])
     (refine held_call 5 rfl (by kernel_rfl) (fun K hK=>?_);go_simp)
     go_at_call 18;refine (ref41_SameT ⟨⟨x1,x2⟩,x3,x4,x5,(kk:Int)⟩ (.slice f1 f2 f3) (.slice f4 f5 f6) (.slice k1 k2 k3) (.slice k4 k5 k6) _ (XOK.out.below HBW.out) (OK2.out.below HBW.out)).mono ?_;rintro e wz5 ⟨rfl,hbq⟩
     have HT:=Lib.hid (HT.out.later hbq)
     have HBW:=Lib.hid (HBW.out.trans (hbq.mono HBW.out.size))
     have HN:=Lib.hid (HN.out.below hbq)
     have HX:=Lib.hid (HX.out.below hbq)
     clear hbq
     (refine hK.out _ _ (⟨HX.out.1,(SP.out _ HBW.out).2⟩) (fun hHeld=>?_);clear hK K;(try simp only [Act.put,List.setIfInBounds_toArray,List.set]))
     (refine hyes 6 ?_);(try simp only [Act.put,List.setIfInBounds_toArray,List.set])
     refine wpAnyH_done (by kernel_rfl) ?_ _
     clear hHeld
     go_wp2_with fail
     exact ⟨⟨j+1,true,by omega,by go_num,rfl,HI2,HT,HBW,HN,HX⟩,by simp [intOf];omega⟩
    ·have d1:eqRl ⟨y1,y2⟩ ⟨r1,r2⟩=false:=decide_eq_false hr
     have HI2:=Lib.hid (show b=(R.take (j+1)).any (fun y=>eqRl y.s.r ⟨r1,r2⟩) by rw [HNX.out,d1,Bool.or_false];exact HIS.out)
     clear hr
     go_wp2_with fail
     go_big_quiet (fail)
     clear p0 p1 p2 p3 p4 p5 q0 q1 q2 q3 q4 q5 cb fb zb hbz hbz2
     obtain ⟨W3,hW3⟩:∃ W,W=W2.drewN nq:=⟨_,rfl⟩
     have hb3:Below W2.heap.size W2 W3:=by rw [hW3];exact below_of_drewN nq
     have HT:=Lib.hid (HT.out.later hb3)
     have HBW:=Lib.hid (HBW.out.trans (hb3.mono HBW.out.size))
     have HN:=Lib.hid (HN.out.below hb3)
     have HX:=Lib.hid (HX.out.below hb3)
     rw [← hW3]
     clear hW3 hb3
     go_wp2_with fail
     exact ⟨⟨j+1,b,by omega,by go_num,rfl,HI2,HT,HBW,HN,HX⟩,by simp [intOf];omega⟩
   ·have hall:b=R.any (fun y=>eqRl y.s.r ⟨r1,r2⟩):=by rw [HIS.out,List.take_of_length_le (show R.length≤j by omega)]
    have hob:okb=b:=by
     rw [hall]
     cases okb with
     | true =>
      obtain ⟨hxR,hxr⟩:=HYES.out rfl
      exact (List.any_eq_true.2 ⟨_,hxR,decide_eq_true hxr⟩).symm
     | false =>
      exact (List.any_eq_false.2 (fun y hy=>by rw [show eqRl y.s.r ⟨r1,r2⟩=false from decide_eq_false (HNO.out rfl y hy)];decide)).symm
    subst hob
    have hbb:(okb == okb)=true:=by cases okb <;> rfl
    have hEq5:=arr5_eql
    have HN0:=HN.out
    rw [List.take_of_length_le (show (R.map MV.s).length≤j by rw [List.length_map];omega)] at HN0
    obtain ⟨m0,n0⟩:∃ m,cntM (R.map MV.s) 0=m:=⟨_,rfl⟩
    obtain ⟨m1,n1⟩:∃ m,cntM (R.map MV.s) 1=m:=⟨_,rfl⟩
    obtain ⟨m2,n2⟩:∃ m,cntM (R.map MV.s) 2=m:=⟨_,rfl⟩
    obtain ⟨m3,n3⟩:∃ m,cntM (R.map MV.s) 3=m:=⟨_,rfl⟩
    obtain ⟨m4,n4⟩:∃ m,cntM (R.map MV.s) 4=m:=⟨_,rfl⟩
    have CV:=Lib.hid (show cntV (R.map MV.s)=.agg #[.int .i64 (m0:Nat),.int .i64 (m1:Nat),.int .i64 (m2:Nat),.int .i64 (m3:Nat),.int .i64 (m4:Nat)] from by unfold cntV;rw [n0,n1,n2,n3,n4])
    have HN:=Lib.hid (show Blk wr w5.heap.size #[.int .i64 (m0:Nat),.int .i64 (m1:Nat),.int .i64 (m2:Nat),.int .i64 (m3:Nat),.int .i64 (m4:Nat)] by rw [← n0,← n1,← n2,← n3,← n4];exact HN0)
    have MC:=Lib.hid (fun W (hb:Below w5.heap.size w5 W)=>mat_Counts (.slice va R.length vc) R W (HSL.out.below hb).a HRO.out.form (by omega))
    rw [CV.out] at MC
    clear n0 n1 n2 n3 n4 HN0 CV hall
    go_wp2_with fail
    have hd:=below_drew (Below.refl wr.heap.size wr)
    refine wp_region_held_drew (S:=(fun W => ∀ o,W.cell? ⟨w5.heap.size,o,none⟩=(#[.int .i64 (m0:Nat),.int .i64 (m1:Nat),.int .i64 (m2:Nat),.int .i64 (m3:Nat),.int .i64 (m4:Nat)]:Array Value)[o]?)) (by kernel_rfl) (HN.out.below hd).1 (fun hHeld=>?_)
    have HT:=Lib.hid (HT.out.later hd)
    have HBW:=Lib.hid (HBW.out.trans (hd.mono HBW.out.size))
    have HN:=Lib.hid (HN.out.below hd)
    obtain ⟨wk,hwk⟩:∃ W,W=wr.drew:=⟨_,rfl⟩
    rw [← hwk] at HT HBW HN hHeld ⊢
    clear hwk hd
    (refine hyes 0 ?_);(refine hyes 1 ?_);(refine hyes 2 ?_);(refine hyes 3 ?_);(refine hyes 4 ?_);(refine hyes 6 ?_);(try simp only [Act.put,List.setIfInBounds_toArray,List.set])
    (refine held_call 5 rfl (by kernel_rfl) (fun K hK=>?_);go_simp)
    go_at_call 21;refine (MC.out _ HBW.out).mono ?_;rintro e wz5 ⟨rfl,hbq⟩
    have HT:=Lib.hid (HT.out.later hbq)
    have HN:=Lib.hid (HN.out.below hbq)
    clear hbq
    (refine hK.out _ _ (HN.out.1) (fun hHeld=>?_);clear hK K;(try simp only [Act.put,List.setIfInBounds_toArray,List.set]))
    (refine hyes 7 ?_);(refine hyes 8 ?_);(refine hyes 9 ?_);(try simp only [Act.put,List.setIfInBounds_toArray,List.set])
    (refine held_call 10 rfl (by kernel_rfl) (fun K hK=>?_);go_simp)
    go_at_call 12;refine (HL.out _ HT.out.low).mono ?_;rintro e wz10 ⟨rfl,hbq⟩
    have HT:=Lib.hid (HT.out.later hbq)
    have HN:=Lib.hid (HN.out.below hbq)
    clear hbq
    (refine hK.out _ _ (HN.out.1) (fun hHeld=>?_);clear hK K;(try simp only [Act.put,List.setIfInBounds_toArray,List.set]))
    (refine hyes 11 ?_);(refine hyes 12 ?_);(try simp only [Act.put,List.setIfInBounds_toArray,List.set])
    refine wpAnyH_done (by kernel_rfl) ?_ _
    go_wp2
    go_ret
    exact ⟨by first | rfl | simp,HT.out.low⟩
 ·have OF:=Lib.hid (matq_OfNo (HMQ.out.below HT.out.low) hRR)
  have HRP:=Lib.hid hRR
  clear hRR
  go_wp2_with fail
  refine OF.out.mono ?_
  rintro e w2 ⟨rfl,hb2⟩
  have HT:=Lib.hid (HT.out.later hb2)
  clear hb2 OF ca fa za
  obtain ⟨ca,fa,za⟩:=HT.out.a
  go_wp2_with fail
  refine (matq_Ref (HMQ.out.below HT.out.low)).mono ?_
  rintro e w3 ⟨⟨b,rfl,hi⟩,hb3⟩
  have hbf:b=false:=by
   cases b with
   | false=>rfl
   | true=>exact absurd (hi.1 rfl) HRP.out
  subst hbf
  have HT:=Lib.hid (HT.out.later hb3)
  clear hi hb3 ca fa za
  go_wp2_with fail
  refine (HL.out _ HT.out.low).mono ?_
  rintro e wl ⟨rfl,hbl⟩
  have TL:=Lib.hid (HT.out.later hbl)
  clear hbl
  go_wp2
  go_ret
  exact ⟨rfl,TL.out.low⟩
end
end Go.Proofs.YtilgbodgmkmjjaaGreatDoor
