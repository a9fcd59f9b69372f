/- Parts: RefPrinsL RefRight6 QRight -/
import Derived.Test.YtomhekohcadijaaGreatDoorPart7
import Derived.Test.YtomhekohcadijaaGreatDoorPart6
namespace Go.Proofs.YtomhekohcadijaaGreatDoor
section
open Go.RowKit Go.Shelf

theorem insAll_snocB:∀ (acc l:List ByteArray) (x:ByteArray),insAllB acc (l++[x])=insSB (insAllB acc l) x
 | _,[],_=>rfl
 | acc,a :: l,x=>insAll_snocB (insSB acc a) l x
theorem new_snoc (l:List ByteArray) (x:ByteArray):newB (l++[x])=insSB (newB l) x:=insAll_snocB [] l x
def NewAt (w:World) (v:Value) (xs:List ByteArray) (n:Nat):Prop:=SlA w 1 v (newB xs).length (strs (newB xs))∧xs.length≤n
theorem NewAt.below {w w':World} {v:Value} {xs:List ByteArray} {n:Nat} (h:NewAt w v xs n) (hb:Below w.heap.size w w'):NewAt w' v xs n:=⟨h.1.below hb,h.2⟩
theorem NewAt.mono {w:World} {v:Value} {xs:List ByteArray} {n m:Nat} (h:NewAt w v xs n) (hm:n≤m):NewAt w v xs m:=⟨h.1,Nat.le_trans h.2 hm⟩
theorem NewAt.nil (w:World):NewAt w (.slice none 0 0) [] 0:=⟨(Sl.nil _ _).a,Nat.le_refl _⟩
theorem NewAt.eq {w:World} {v:Value} {xs ys:List ByteArray} {n:Nat} (h:NewAt w v xs n) (e:ys=xs):NewAt w v ys n:=by rw [e];exact h
theorem put_new (v:Value) (n:Nat) (xs:List ByteArray) (s:ByteArray) (w:World) (h:NewAt w v xs n) (hn:n≤100000) :
  Calls Tryz.prog 168 #[v,.string s] w fun e w' => ∃ v',e=.returned v'∧NewAt w' v' (xs++[s]) (n+1)∧Below w.heap.size w w':=by
 refine (ref1_PutB v (newB xs) s w h.1 (Nat.le_trans (new_len xs) (Nat.le_trans h.2 hn))).mono ?_
 rintro e w' ⟨v',he,hr,hb⟩
 exact ⟨v',he,⟨by rw [new_snoc];exact hr,by rw [List.length_append];exact Nat.succ_le_succ h.2⟩,hb⟩
def whoS (s:St):List ByteArray:=if s.k=1 then [s.who] else []
def viaS (s:St):List ByteArray:=if s.k=3 then [s.via] else []
def allPrins (l:List St) (g h:List Rl) (qs:List Qv) (F:Qv→List ByteArray):List ByteArray:=(allRoles l g h qs).map Rl.o++l.flatMap whoS++qs.flatMap F
def allNames (l:List St) (g h:List Rl) (qs:List Qv):List ByteArray:=(allRoles l g h qs).map Rl.n++l.flatMap viaS
def WhoF (w:World) (qs:List Qv) (F:Qv→List ByteArray):Prop:=∀ q∈qs,SlA w 1 q.w (F q).length (strs (F q))∧(F q).length≤40
theorem WhoF.below {w w':World} {qs:List Qv} {F:Qv→List ByteArray} (h:WhoF w qs F) (hb:Below w.heap.size w w'):WhoF w' qs F:=fun q hq=>⟨(h q hq).1.below hb,(h q hq).2⟩

set_option maxRecDepth 100000 in
set_option maxHeartbeats 8000000 in
theorem ref5_PrinsL (v0 v1 v2 v3:Value) (l:List St) (g h:List Rl) (qs:List Qv) (w:World) (hp:PolAt w v0 v1 v2 v3 l g h qs) (hl:l.length≤100) (hg:g.length≤100) (hh:h.length≤100) (hq:qs.length≤100) (F:Qv→List ByteArray) (hF:WhoF w qs F) :
  Calls Tryz.prog 112 #[pv v0 v1 v2 v3] w fun e w' => ∃ v,e=.returned v∧NewAt w' v (allPrins l g h qs F) 10000∧Below w.heap.size w w':=by
 have HP:=Lib.hid hp
 have HR:=Lib.hid (fun W (hb:Below w.heap.size w W)=>ref5_RolesL v0 v1 v2 v3 l g h qs W (hp.below hb) hl hg hh hq)
 have HQ4:=Lib.hid hF
 obtain ⟨a0,c0,rfl⟩:=hp.rs.form
 obtain ⟨a1,c1,rfl⟩:=hp.rg.form
 obtain ⟨a2,c2,rfl⟩:=hp.rh.form
 obtain ⟨a3,c3,rfl⟩:=hp.rq.form
 have HT:=Lib.hid (show OneAt w #[.slice a0 l.length c0,.slice a1 g.length c1,.slice a2 h.length c2,.slice a3 qs.length c3] (w.alloc (.cells #[.slice a0 l.length c0,.slice a1 g.length c1,.slice a2 h.length c2,.slice a3 qs.length c3] 26)) from ⟨Blk.new w _ _,(Below.refl _ _).alloc (Nat.le_refl _) _⟩)
 clear hp hF
 go_enter Tryz.func112,Tryz.ntmps112
 go_wp2_with fail
 refine (HR.out _ HT.out.low).mono ?_
 rintro e w1 ⟨vr,rfl,hr1,hr2,hr3,hb1⟩
 have HT:=Lib.hid (HT.out.later hb1)
 have HRES:=Lib.hid (show allPrins l g h qs F=((allRoles l g h qs).map Rl.o++l.flatMap whoS)++qs.flatMap F from rfl)
 generalize allRoles l g h qs=rs at *
 have HRS:=Lib.hid hr1
 have HRL:=Lib.hid hr3
 obtain ⟨ro,rc,rfl⟩:=hr1.form
 clear hb1 hr1 hr3
 go_wp2_with fail
 go_loopw [3,15] (fun vo i wr => ∃ (k:Nat) (vx:Value),k≤rs.length∧vx=vo∧i=.int .i64 k∧Hid (NewAt wr vx ((rs.take k).map Rl.o) k)∧Hid (OneAt w #[.slice a0 l.length c0,.slice a1 g.length c1,.slice a2 h.length c2,.slice a3 qs.length c3] wr)∧Hid (Below w1.heap.size w1 wr)) (fun _ i _=>rs.length - (intOf i).toNat)
 case atStart=>exact ⟨0,_,by omega,rfl,rfl,Lib.hid (NewAt.nil _),HT,Lib.hid (Below.refl _ _)⟩
 case round =>
  clear HT
  obtain ⟨k,vx,hk,rfl,rfl,HO,HT,HB⟩:=hrel
  by_cases hlt:k < rs.length
  ·obtain ⟨b1,o1,e1,he1,hc1,hm1',hb1,hx1⟩:=HRS.out.pos (by omega)
   simp only [Value.slice.injEq,true_and] at he1
   obtain ⟨rfl,rfl⟩:=he1
   obtain ⟨p0,p1⟩:=rl_cell (w:=wr) (fun j u hu=>(HB.out.cell (p:=⟨b1,o1+j,none⟩) hb1).trans (hx1 j u hu)) k hlt
   have hbr:b1 < wr.heap.size:=Nat.lt_of_lt_of_le hb1 HB.out.size
   have HF:=Lib.hid (take_snoc hlt)
   clear hx1
   generalize rs[k]=x at *
   obtain ⟨x1,x2⟩:=x
   have hba:Below wr.heap.size wr (wr.alloc (.cells #[.string x1,.string x2] 78)):=(Below.refl _ _).alloc (Nat.le_refl _) _
   have PC:=Lib.hid (put_new vx k _ x1 _ (HO.out.below hba) (by omega))
   have HT2:=Lib.hid (HT.out.later hba)
   have HB2:=Lib.hid (HB.out.trans (hba.mono HB.out.size))
   clear hba
   go_wp2_with fail
   refine PC.out.mono ?_
   rintro e w3 ⟨vz,rfl,hr,hb3⟩
   have HR3:=Lib.hid hr
   have HT3:=Lib.hid (HT2.out.later hb3)
   have HB3:=Lib.hid (HB2.out.trans (hb3.mono HB2.out.size))
   clear hr hb3
   go_wp2
   exact ⟨⟨k+1,_,by omega,rfl,by go_num,Lib.hid (HR3.out.eq (by rw [HF.out,List.map_append];rfl)),HT3,HB3⟩,by simp [intOf];omega⟩
  ·obtain ⟨ca,fa,za⟩:=HT.out.a
   have HO:=Lib.hid ((HO.out.mono (show k≤1000 by omega)).eq (ys:=rs.map Rl.o) (by rw [List.take_of_length_le (show rs.length≤k by omega)]))
   clear HB HRS HRL hk
   go_wp2_with fail
   clear ca fa za
   go_loopw [3,27] (fun vo i wr => ∃ (k:Nat) (vx:Value),k≤l.length∧vx=vo∧i=.int .i64 k∧Hid (NewAt wr vx (rs.map Rl.o++(l.take k).flatMap whoS) (1000+k))∧Hid (OneAt w #[.slice a0 l.length c0,.slice a1 g.length c1,.slice a2 h.length c2,.slice a3 qs.length c3] wr)) (fun _ i _=>l.length - (intOf i).toNat)
   case atStart=>exact ⟨0,_,by omega,rfl,rfl,Lib.hid (HO.out.eq (by simp)),HT⟩
   case round =>
    clear HT HO
    obtain ⟨k,vx,hk,rfl,rfl,HO,HT⟩:=hrel
    by_cases hlt:k < l.length
    ·obtain ⟨b1,o1,e1,he1,hc1,hm1',hb1,hx1⟩:=HP.out.rs.pos (by omega)
     simp only [Value.slice.injEq,true_and] at he1
     obtain ⟨rfl,rfl⟩:=he1
     obtain ⟨p0,p1,p2,p3,p4,p5,p6,p7,p8⟩:=st_cell (w:=wr) (fun j u hu=>(HT.out.low.cell (p:=⟨b1,o1+j,none⟩) hb1).trans (hx1 j u hu)) k hlt
     have hbr:b1 < wr.heap.size:=Nat.lt_of_lt_of_le hb1 HT.out.low.size
     have HF:=Lib.hid (flat_snocF whoS hlt)
     clear hx1
     generalize l[k]=x at *
     obtain ⟨xk,⟨x1,x2⟩,xw,⟨x3,x4⟩,⟨x5,x6⟩,xv⟩:=x
     have hba:Below wr.heap.size wr (wr.alloc (.cells #[.int .i64 xk,.string x1,.string x2,.string xw,.string x3,.string x4,.string x5,.string x6,.string xv] 80)):=(Below.refl _ _).alloc (Nat.le_refl _) _
     have PC:=Lib.hid (put_new vx (1000+k) _ xw _ (HO.out.below hba) (by omega))
     have HT2:=Lib.hid (HT.out.later hba)
     have HO2:=Lib.hid (HO.out.below hba)
     clear hba
     by_cases hkk:xk=1
     ·have d1:(xk == 1)=true:=by simp [hkk]
      have HK:=Lib.hid (show whoS ⟨xk,⟨x1,x2⟩,xw,⟨x3,x4⟩,⟨x5,x6⟩,xv⟩=[xw] from if_pos hkk)
      clear hkk
      go_wp2_with fail
      refine PC.out.mono ?_
      rintro e w3 ⟨vz,rfl,hr,hb3⟩
      have HR3:=Lib.hid hr
      have HT3:=Lib.hid (HT2.out.later hb3)
      clear hr hb3
      go_wp2
      exact ⟨⟨k+1,_,by omega,rfl,by go_num,Lib.hid (HR3.out.eq (by rw [HF.out,HK.out,List.append_assoc])),HT3⟩,by simp [intOf];omega⟩
     ·have d1:(xk == 1)=false:=by simp [hkk]
      have HK:=Lib.hid (show whoS ⟨xk,⟨x1,x2⟩,xw,⟨x3,x4⟩,⟨x5,x6⟩,xv⟩=[] from if_neg hkk)
      clear hkk
      go_wp2
      exact ⟨⟨k+1,_,by omega,rfl,by go_num,Lib.hid ((HO2.out.mono (by omega)).eq (by rw [HF.out,HK.out,List.append_nil])),HT2⟩,by simp [intOf];omega⟩
    ·obtain ⟨ca,fa,za⟩:=HT.out.a
     have HO:=Lib.hid ((HO.out.mono (show 1000+k≤1100 by omega)).eq (ys:=rs.map Rl.o++l.flatMap whoS) (by rw [List.take_of_length_le (show l.length≤k by omega)]))
     clear hk
     go_wp2_with fail
     clear ca fa za
     go_loopw [3,42] (fun vo i wr => ∃ (k:Nat) (vx:Value),k≤qs.length∧vx=vo∧i=.int .i64 k∧Hid (NewAt wr vx (rs.map Rl.o++l.flatMap whoS++(qs.take k).flatMap F) (1100+40 * k))∧Hid (OneAt w #[.slice a0 l.length c0,.slice a1 g.length c1,.slice a2 h.length c2,.slice a3 qs.length c3] wr)) (fun _ i _=>qs.length - (intOf i).toNat)
     case atStart=>exact ⟨0,_,by omega,rfl,rfl,Lib.hid (HO.out.eq (by simp)),HT⟩
     case round =>
      clear HT HO
      obtain ⟨k,vx,hk,rfl,rfl,HO,HT⟩:=hrel
      by_cases hlt:k < qs.length
      ·obtain ⟨b1,o1,e1,he1,hc1,hm1',hb1,hx1⟩:=HP.out.rq.pos (by omega)
       simp only [Value.slice.injEq,true_and] at he1
       obtain ⟨rfl,rfl⟩:=he1
       obtain ⟨p0,p1,p2,p3,p4,p5⟩:=q_cell (w:=wr) (fun j u hu=>(HT.out.low.cell (p:=⟨b1,o1+j,none⟩) hb1).trans (hx1 j u hu)) k hlt
       have hbr:b1 < wr.heap.size:=Nat.lt_of_lt_of_le hb1 HT.out.low.size
       obtain ⟨hu1,hu2⟩:=HQ4.out _ (List.getElem_mem hlt)
       have HF:=Lib.hid (flat_snocF F hlt)
       generalize F qs[k]=us at hu1 hu2 HF
       have HU:=Lib.hid hu1
       obtain ⟨wo,wc,hw5⟩:=hu1.form
       clear hx1 hu1
       generalize qs[k]=x at *
       obtain ⟨xk,⟨x1,x2⟩,⟨x3,x4⟩,xw⟩:=x
       dsimp only at hw5 HU
       subst hw5
       obtain ⟨nw,hnw⟩:∃ nw,nw=us.length:=⟨_,rfl⟩
       have HNW:=Lib.hid hnw
       rw [← hnw] at p5 HU hu2
       clear hnw
       have hba:Below wr.heap.size wr (wr.alloc (.cells #[.int .i64 xk,.string x1,.string x2,.string x3,.string x4,.slice wo nw wc] 83)):=(Below.refl _ _).alloc (Nat.le_refl _) _
       have HT2:=Lib.hid (HT.out.later hba)
       have HO2:=Lib.hid (HO.out.below hba)
       clear hba
       go_wp2_with fail
       go_loopw [3,49] (fun vo i wr => ∃ (j:Nat) (vx:Value),j≤nw∧vx=vo∧i=.int .i64 j∧Hid (NewAt wr vx (rs.map Rl.o++l.flatMap whoS++(qs.take k).flatMap F++us.take j) (1100+40 * k+j))∧Hid (OneAt w #[.slice a0 l.length c0,.slice a1 g.length c1,.slice a2 h.length c2,.slice (some ⟨b1,o1,none⟩) qs.length c3] wr)) (fun _ i _=>nw - (intOf i).toNat)
       case atStart=>exact ⟨0,_,by omega,rfl,rfl,Lib.hid (HO2.out.eq (by simp)),HT2⟩
       case round =>
        clear HT HO HT2 HO2
        obtain ⟨j,vx,hj,rfl,rfl,HO,HT⟩:=hrel
        by_cases hlj:j < nw
        ·obtain ⟨b1,o1,e1,he1,hc1,hm1',hb1,hx1⟩:=HU.out.pos (by omega)
         simp only [Value.slice.injEq,true_and] at he1
         obtain ⟨rfl,rfl⟩:=he1
         have hju:j < us.length:=by have:=HNW.out;omega
         have p0:=(HT.out.low.cell (p:=⟨b1,o1+j,none⟩) hb1).trans (hx1 j _ (strs_get hju))
         have hbr:b1 < wr.heap.size:=Nat.lt_of_lt_of_le hb1 HT.out.low.size
         have PC:=Lib.hid (put_new vx (1100+40 * k+j) _ us[j] _ HO.out (by omega))
         have HFJ:=Lib.hid (take_snoc hju)
         clear hx1
         generalize us[j]=s at *
         go_wp2_with fail
         refine PC.out.mono ?_
         rintro e w3 ⟨vz,rfl,hr,hb3⟩
         have HR3:=Lib.hid hr
         have HT3:=Lib.hid (HT.out.later hb3)
         clear hr hb3
         go_wp2
         exact ⟨⟨j+1,_,by omega,rfl,by go_num,Lib.hid (HR3.out.eq (by rw [HFJ.out];simp only [List.append_assoc])),HT3⟩,by simp [intOf];omega⟩
        ·have HO3:=Lib.hid ((HO.out.mono (show 1100+40 * k+j≤1100+40 * (k+1) by omega)).eq (ys:=rs.map Rl.o++l.flatMap whoS++(qs.take (k+1)).flatMap F) (by rw [HF.out,List.take_of_length_le (show us.length≤j by have:=HNW.out;omega)];simp only [List.append_assoc]))
         go_wp2
         exact ⟨⟨k+1,_,by omega,rfl,by go_num,HO3,HT⟩,by simp [intOf];omega⟩
      ·have HO3:=Lib.hid ((HO.out.mono (show 1100+40 * k≤10000 by omega)).eq (ys:=allPrins l g h qs F) (by rw [HRES.out,List.take_of_length_le (show qs.length≤k by omega)]))
       go_wp2
       go_ret
       exact ⟨_,rfl,HO3.out,HT.out.low⟩

set_option maxRecDepth 100000 in
set_option maxHeartbeats 8000000 in
theorem ref5_NamesL (v0 v1 v2 v3:Value) (l:List St) (g h:List Rl) (qs:List Qv) (w:World) (hp:PolAt w v0 v1 v2 v3 l g h qs) (hl:l.length≤100) (hg:g.length≤100) (hh:h.length≤100) (hq:qs.length≤100)  :
  Calls Tryz.prog 113 #[pv v0 v1 v2 v3] w fun e w' => ∃ v,e=.returned v∧NewAt w' v (allNames l g h qs) 10000∧Below w.heap.size w w':=by
 have HP:=Lib.hid hp
 have HR:=Lib.hid (fun W (hb:Below w.heap.size w W)=>ref5_RolesL v0 v1 v2 v3 l g h qs W (hp.below hb) hl hg hh hq)
 obtain ⟨a0,c0,rfl⟩:=hp.rs.form
 obtain ⟨a1,c1,rfl⟩:=hp.rg.form
 obtain ⟨a2,c2,rfl⟩:=hp.rh.form
 obtain ⟨a3,c3,rfl⟩:=hp.rq.form
 have HT:=Lib.hid (show OneAt w #[.slice a0 l.length c0,.slice a1 g.length c1,.slice a2 h.length c2,.slice a3 qs.length c3] (w.alloc (.cells #[.slice a0 l.length c0,.slice a1 g.length c1,.slice a2 h.length c2,.slice a3 qs.length c3] 26)) from ⟨Blk.new w _ _,(Below.refl _ _).alloc (Nat.le_refl _) _⟩)
 clear hp 
 go_enter Tryz.func113,Tryz.ntmps113
 go_wp2_with fail
 refine (HR.out _ HT.out.low).mono ?_
 rintro e w1 ⟨vr,rfl,hr1,hr2,hr3,hb1⟩
 have HT:=Lib.hid (HT.out.later hb1)
 have HRES:=Lib.hid (show allNames l g h qs=((allRoles l g h qs).map Rl.n++l.flatMap viaS)  from rfl)
 generalize allRoles l g h qs=rs at *
 have HRS:=Lib.hid hr1
 have HRL:=Lib.hid hr3
 obtain ⟨ro,rc,rfl⟩:=hr1.form
 clear hb1 hr1 hr3
 go_wp2_with fail
 go_loopw [3,11] (fun vo i wr => ∃ (k:Nat) (vx:Value),k≤rs.length∧vx=vo∧i=.int .i64 k∧Hid (NewAt wr vx ((rs.take k).map Rl.n) k)∧Hid (OneAt w #[.slice a0 l.length c0,.slice a1 g.length c1,.slice a2 h.length c2,.slice a3 qs.length c3] wr)∧Hid (Below w1.heap.size w1 wr)) (fun _ i _=>rs.length - (intOf i).toNat)
 case atStart=>exact ⟨0,_,by omega,rfl,rfl,Lib.hid (NewAt.nil _),HT,Lib.hid (Below.refl _ _)⟩
 case round =>
  clear HT
  obtain ⟨k,vx,hk,rfl,rfl,HO,HT,HB⟩:=hrel
  by_cases hlt:k < rs.length
  ·obtain ⟨b1,o1,e1,he1,hc1,hm1',hb1,hx1⟩:=HRS.out.pos (by omega)
   simp only [Value.slice.injEq,true_and] at he1
   obtain ⟨rfl,rfl⟩:=he1
   obtain ⟨p0,p1⟩:=rl_cell (w:=wr) (fun j u hu=>(HB.out.cell (p:=⟨b1,o1+j,none⟩) hb1).trans (hx1 j u hu)) k hlt
   have hbr:b1 < wr.heap.size:=Nat.lt_of_lt_of_le hb1 HB.out.size
   have HF:=Lib.hid (take_snoc hlt)
   clear hx1
   generalize rs[k]=x at *
   obtain ⟨x1,x2⟩:=x
   have hba:Below wr.heap.size wr (wr.alloc (.cells #[.string x1,.string x2] 78)):=(Below.refl _ _).alloc (Nat.le_refl _) _
   have PC:=Lib.hid (put_new vx k _ x2 _ (HO.out.below hba) (by omega))
   have HT2:=Lib.hid (HT.out.later hba)
   have HB2:=Lib.hid (HB.out.trans (hba.mono HB.out.size))
   clear hba
   go_wp2_with fail
   refine PC.out.mono ?_
   rintro e w3 ⟨vz,rfl,hr,hb3⟩
   have HR3:=Lib.hid hr
   have HT3:=Lib.hid (HT2.out.later hb3)
   have HB3:=Lib.hid (HB2.out.trans (hb3.mono HB2.out.size))
   clear hr hb3
   go_wp2
   exact ⟨⟨k+1,_,by omega,rfl,by go_num,Lib.hid (HR3.out.eq (by rw [HF.out,List.map_append];rfl)),HT3,HB3⟩,by simp [intOf];omega⟩
  ·obtain ⟨ca,fa,za⟩:=HT.out.a
   have HO:=Lib.hid ((HO.out.mono (show k≤1000 by omega)).eq (ys:=rs.map Rl.n) (by rw [List.take_of_length_le (show rs.length≤k by omega)]))
   clear HB HRS HRL hk
   go_wp2_with fail
   clear ca fa za
   go_loopw [3,23] (fun vo i wr => ∃ (k:Nat) (vx:Value),k≤l.length∧vx=vo∧i=.int .i64 k∧Hid (NewAt wr vx (rs.map Rl.n++(l.take k).flatMap viaS) (1000+k))∧Hid (OneAt w #[.slice a0 l.length c0,.slice a1 g.length c1,.slice a2 h.length c2,.slice a3 qs.length c3] wr)) (fun _ i _=>l.length - (intOf i).toNat)
   case atStart=>exact ⟨0,_,by omega,rfl,rfl,Lib.hid (HO.out.eq (by simp)),HT⟩
   case round =>
    clear HT HO
    obtain ⟨k,vx,hk,rfl,rfl,HO,HT⟩:=hrel
    by_cases hlt:k < l.length
    ·obtain ⟨b1,o1,e1,he1,hc1,hm1',hb1,hx1⟩:=HP.out.rs.pos (by omega)
     simp only [Value.slice.injEq,true_and] at he1
     obtain ⟨rfl,rfl⟩:=he1
     obtain ⟨p0,p1,p2,p3,p4,p5,p6,p7,p8⟩:=st_cell (w:=wr) (fun j u hu=>(HT.out.low.cell (p:=⟨b1,o1+j,none⟩) hb1).trans (hx1 j u hu)) k hlt
     have hbr:b1 < wr.heap.size:=Nat.lt_of_lt_of_le hb1 HT.out.low.size
     have HF:=Lib.hid (flat_snocF viaS hlt)
     clear hx1
     generalize l[k]=x at *
     obtain ⟨xk,⟨x1,x2⟩,xw,⟨x3,x4⟩,⟨x5,x6⟩,xv⟩:=x
     have hba:Below wr.heap.size wr (wr.alloc (.cells #[.int .i64 xk,.string x1,.string x2,.string xw,.string x3,.string x4,.string x5,.string x6,.string xv] 80)):=(Below.refl _ _).alloc (Nat.le_refl _) _
     have PC:=Lib.hid (put_new vx (1000+k) _ xv _ (HO.out.below hba) (by omega))
     have HT2:=Lib.hid (HT.out.later hba)
     have HO2:=Lib.hid (HO.out.below hba)
     clear hba
     by_cases hkk:xk=3
     ·have d1:(xk == 3)=true:=by simp [hkk]
      have HK:=Lib.hid (show viaS ⟨xk,⟨x1,x2⟩,xw,⟨x3,x4⟩,⟨x5,x6⟩,xv⟩=[xv] from if_pos hkk)
      clear hkk
      go_wp2_with fail
      refine PC.out.mono ?_
      rintro e w3 ⟨vz,rfl,hr,hb3⟩
      have HR3:=Lib.hid hr
      have HT3:=Lib.hid (HT2.out.later hb3)
      clear hr hb3
      go_wp2
      exact ⟨⟨k+1,_,by omega,rfl,by go_num,Lib.hid (HR3.out.eq (by rw [HF.out,HK.out,List.append_assoc])),HT3⟩,by simp [intOf];omega⟩
     ·have d1:(xk == 3)=false:=by simp [hkk]
      have HK:=Lib.hid (show viaS ⟨xk,⟨x1,x2⟩,xw,⟨x3,x4⟩,⟨x5,x6⟩,xv⟩=[] from if_neg hkk)
      clear hkk
      go_wp2
      exact ⟨⟨k+1,_,by omega,rfl,by go_num,Lib.hid ((HO2.out.mono (by omega)).eq (by rw [HF.out,HK.out,List.append_nil])),HT2⟩,by simp [intOf];omega⟩
    ·have HO3:=Lib.hid ((HO.out.mono (show 1000+k≤10000 by omega)).eq (ys:=allNames l g h qs) (by rw [HRES.out,List.take_of_length_le (show l.length≤k by omega)]))
     go_wp2
     go_ret
     exact ⟨_,rfl,HO3.out,HT.out.low⟩
end
section
open Go.RowKit Go.Shelf

def fitsP (l:List St) (g h:List Rl) (qs:List Qv) (F:Qv→List ByteArray):Bool:=decide (qs.length≤16) && (decide ((newB (allPrins l g h qs F)).length≤16) && decide ((newB (allNames l g h qs)).length≤12))
set_option maxRecDepth 100000 in
set_option maxHeartbeats 8000000 in
theorem ref5_FitsL (v0 v1 v2 v3:Value) (l:List St) (g h:List Rl) (qs:List Qv) (w:World) (hp:PolAt w v0 v1 v2 v3 l g h qs) (hl:l.length≤80) (hg:g.length≤40) (hh:h.length≤40) (hq:qs.length≤100) (F:Qv→List ByteArray) (hF:WhoF w qs F) :
  Calls Tryz.prog 62 #[pv v0 v1 v2 v3] w fun e w'=>e=.returned (.bool (fitsP l g h qs F))∧Below w.heap.size w w':=by
 have PR:=Lib.hid (fun W (hb:Below w.heap.size w W)=>ref5_PrinsL v0 v1 v2 v3 l g h qs W (hp.below hb) (by omega) (by omega) (by omega) hq F (hF.below hb))
 have NA:=Lib.hid (fun W (hb:Below w.heap.size w W)=>ref5_NamesL v0 v1 v2 v3 l g h qs W (hp.below hb) (by omega) (by omega) (by omega) hq)
 obtain ⟨a0,c0,rfl⟩:=hp.rs.form
 obtain ⟨a1,c1,rfl⟩:=hp.rg.form
 obtain ⟨a2,c2,rfl⟩:=hp.rh.form
 obtain ⟨a3,c3,rfl⟩:=hp.rq.form
 have HT:=Lib.hid (show OneAt w #[.slice a0 l.length c0,.slice a1 g.length c1,.slice a2 h.length c2,.slice a3 qs.length c3] (w.alloc (.cells #[.slice a0 l.length c0,.slice a1 g.length c1,.slice a2 h.length c2,.slice a3 qs.length c3] 26)) from ⟨Blk.new w _ _,(Below.refl _ _).alloc (Nat.le_refl _) _⟩)
 have d0:decide ((80:Int) < (l.length:Int))=false:=by (rw [decide_eq_false_iff_not];omega)
 have d1:decide ((40:Int) < (g.length:Int))=false:=by (rw [decide_eq_false_iff_not];omega)
 have d2:decide ((40:Int) < (h.length:Int))=false:=by (rw [decide_eq_false_iff_not];omega)
 have RES:=Lib.hid (show fitsP l g h qs F=(decide (qs.length≤16) && (decide ((newB (allPrins l g h qs F)).length≤16) && decide ((newB (allNames l g h qs)).length≤12))) from rfl)
 clear hp hF
 go_enter Tryz.func62,Tryz.ntmps62
 by_cases t3:16 < qs.length
 ·have d3:decide ((16:Int) < (qs.length:Int))=true:=by (rw [decide_eq_true_iff];omega)
  go_wp2
  go_ret
  exact ⟨ret_b (by rw [RES.out,decide_eq_false (by omega)];rfl),HT.out.low⟩
 have hq16:decide (qs.length≤16)=true:=by rw [decide_eq_true_iff];omega
 have d3:decide ((16:Int) < (qs.length:Int))=false:=by (rw [decide_eq_false_iff_not];omega)
 go_wp2_with fail
 refine (PR.out _ HT.out.low).mono ?_
 rintro e w1 ⟨x1,rfl,hx1,hb1⟩
 have HT:=Lib.hid (HT.out.later hb1)
 obtain ⟨hs1,_⟩:=hx1
 have HA1:=Lib.hid hs1.max
 generalize newB (allPrins l g h qs F)=ss at *
 obtain ⟨xo,xc,rfl⟩:=hs1.form
 obtain ⟨ca,fa,za⟩:=HT.out.a
 clear hb1 hs1
 by_cases t4:ss.length≤16
 ·have d4:decide ((ss.length:Int)≤16)=true:=by (rw [decide_eq_true_iff];omega)
  have d4':decide (ss.length≤16)=true:=by (rw [decide_eq_true_iff];omega)
  go_wp2_with fail
  refine (NA.out _ HT.out.low).mono ?_
  rintro e w2 ⟨x2,rfl,hx2,hb2⟩
  have HT2:=Lib.hid (HT.out.later hb2)
  obtain ⟨hu1,_⟩:=hx2
  generalize newB (allNames l g h qs)=us at *
  obtain ⟨yo,yc,rfl⟩:=hu1.form
  clear hb2 hu1
  by_cases t5:us.length≤12
  ·have d5:decide ((us.length:Int)≤12)=true:=by (rw [decide_eq_true_iff];omega)
   have d5':decide (us.length≤12)=true:=by (rw [decide_eq_true_iff];omega)
   go_wp2
   go_ret
   exact ⟨ret_b (by rw [RES.out,hq16,d4',d5'];rfl),HT2.out.low⟩
  ·have d5:decide ((us.length:Int)≤12)=false:=by (rw [decide_eq_false_iff_not];omega)
   have d5':decide (us.length≤12)=false:=by (rw [decide_eq_false_iff_not];omega)
   go_wp2
   go_ret
   exact ⟨ret_b (by rw [RES.out,hq16,d4',d5'];rfl),HT2.out.low⟩
 ·have d4:decide ((ss.length:Int)≤16)=false:=by (rw [decide_eq_false_iff_not];omega)
  have d4':decide (ss.length≤16)=false:=by (rw [decide_eq_false_iff_not];omega)
  go_wp2
  go_ret
  exact ⟨ret_b (by rw [RES.out,hq16,d4'];rfl),HT.out.low⟩

def risesAt (us:List ByteArray) (i:Nat):Bool:=isP 65 90 (bl (us.getD i emp)) && (decide (i=0) || Op.bytesLess (us.getD (i - 1) emp).toList (us.getD i emp).toList)
def rises (us:List ByteArray):Bool:=(List.range us.length).all (risesAt us)
theorem rises_yes {us:List ByteArray} {k:Nat} (hk:¬ k < us.length) (h:∀ j,j < k→risesAt us j=true):rises us=true:=by
 unfold rises;rw [List.all_eq_true]
 intro j hj
 exact h j (by have:=List.mem_range.1 hj;omega)
theorem rises_no {us:List ByteArray} {k:Nat} (hk:k < us.length) (h:risesAt us k=false):rises us=false:=by
 cases hr:rises us with
 | false=>rfl
 | true =>
  unfold rises at hr
  rw [List.all_eq_true] at hr
  rw [hr k (List.mem_range.2 hk)] at h;cases h
theorem getD_at {us:List ByteArray} {k:Nat} (hk:k < us.length):us.getD k emp=us[k]:=by rw [List.getD_eq_getElem?_getD,List.getElem?_eq_getElem hk];rfl
def rightQ (q:Qv) (us:List ByteArray):Bool :=
 decide (1≤q.k) && (decide (q.k≤6) && (isRole q.a && (rises us &&
 (if 5≤q.k then isRole q.b && decide (us.length=0) else eqRl q.b noR && (decide (us.length≤12) && (if q.k=4 then decide (us.length=0) else decide (q.k=3) || decide (0 < us.length)))))))
def RightP (l:List St) (g h:List Rl) (qs:List Qv) (F:Qv→List ByteArray):Prop:=(∀ x∈l,rightS x=true)∧(∀ x∈g++h,isRole x=true)∧(∀ q∈qs,rightQ q (F q)=true)∧l=insAll [] l∧g=insAllR [] g∧h=insAllR [] h∧fitsP l g h qs F=true
def RightI (l:List St) (g h:List Rl) (qs:List Qv) (F:Qv→List ByteArray) (e:Ending):Prop:=∃ b,e=.returned (.bool b)∧(b=true↔RightP l g h qs F)
theorem rightI_no {l:List St} {g h:List Rl} {qs:List Qv} {F:Qv→List ByteArray} (hn:¬ RightP l g h qs F):RightI l g h qs F (.returned (.bool false)):=⟨false,rfl,⟨(fun h=>by cases h),fun h=>absurd h hn⟩⟩
end
section
open Go.RowKit Go.Shelf

def secB (k:Int):Bool:=decide (k=5) || decide (k=6)
def leastI (k:Int):Int:=if k=1∨k=2 then 1 else if k=3 then 0 else -1
def univB (k:Int):Bool:=decide (k=1) || decide (k=3) || decide (k=5) || decide (k=6)
theorem query_secondB (k:Int) (w:World):Calls Tryz.prog 170 #[.int .i64 k] w fun e w'=>e=.returned (.bool (secB k))∧w'=w:=by
 have R:=Lib.hid (show secB k=(decide (k=5) || decide (k=6)) from rfl)
 generalize secB k=r at *
 go_enter Tryz.func170,Tryz.ntmps170
 by_cases h5:k=5
 ·have d5:(k == 5)=true:=by simp [h5]
  have R2:=Lib.hid (show r=true by rw [R.out,decide_eq_true h5];rfl)
  clear h5
  go_wp2
  go_ret
  exact ⟨ret_b R2.out.symm,rfl⟩
 ·have d5:(k == 5)=false:=by simp [h5]
  by_cases h6:k=6
  ·have d6:(k == 6)=true:=by simp [h6]
   have R2:=Lib.hid (show r=true by rw [R.out,decide_eq_true h6,Bool.or_true])
   clear h5 h6
   go_wp2
   go_ret
   exact ⟨ret_b R2.out.symm,rfl⟩
  ·have d6:(k == 6)=false:=by simp [h6]
   have R2:=Lib.hid (show r=false by rw [R.out,decide_eq_false h5,decide_eq_false h6];rfl)
   clear h5 h6
   go_wp2
   go_ret
   exact ⟨ret_b R2.out.symm,rfl⟩
theorem query_least (k:Int) (w:World):Calls Tryz.prog 171 #[.int .i64 k] w fun e w'=>e=.returned (.int .i64 (leastI k))∧w'=w:=by
 have R:=Lib.hid (show leastI k=if k=1∨k=2 then 1 else if k=3 then 0 else -1 from rfl)
 generalize leastI k=r at *
 go_enter Tryz.func171,Tryz.ntmps171
 by_cases h1:k=1
 ·have d1:(k == 1)=true:=by simp [h1]
  have R2:=Lib.hid (show r=1 by rw [R.out,if_pos (.inl h1)])
  clear h1
  go_wp2
  go_ret
  exact ⟨ret_int R2.out.symm,rfl⟩
 have d1:(k == 1)=false:=by simp [h1]
 by_cases h2:k=2
 ·have d2:(k == 2)=true:=by simp [h2]
  have R2:=Lib.hid (show r=1 by rw [R.out,if_pos (.inr h2)])
  clear h1 h2
  go_wp2
  go_ret
  exact ⟨ret_int R2.out.symm,rfl⟩
 have d2:(k == 2)=false:=by simp [h2]
 by_cases h3:k=3
 ·have d3:(k == 3)=true:=by simp [h3]
  have R2:=Lib.hid (show r=0 by rw [R.out,if_neg (by omega),if_pos h3])
  clear h1 h2 h3
  go_wp2
  go_ret
  exact ⟨ret_int R2.out.symm,rfl⟩
 ·have d3:(k == 3)=false:=by simp [h3]
  have R2:=Lib.hid (show r = -1 by rw [R.out,if_neg (by omega),if_neg h3])
  clear h1 h2 h3
  go_wp2
  go_ret
  exact ⟨ret_int R2.out.symm,rfl⟩
theorem query_Universal (k:Int) (w:World):Calls Tryz.prog 233 #[.int .i64 k] w fun e w'=>e=.returned (.bool (univB k))∧w'=w:=by
 have R:=Lib.hid (show univB k=(decide (k=1) || decide (k=3) || decide (k=5) || decide (k=6)) from rfl)
 generalize univB k=r at *
 go_enter Tryz.func233,Tryz.ntmps233
 by_cases h1:k=1
 ·have d1:(k == 1)=true:=by simp [h1]
  have R2:=Lib.hid (show r=true by rw [R.out,decide_eq_true h1];rfl)
  clear h1
  go_wp2
  go_ret
  exact ⟨ret_b R2.out.symm,rfl⟩
 have d1:(k == 1)=false:=by simp [h1]
 by_cases h3:k=3
 ·have d3:(k == 3)=true:=by simp [h3]
  have R2:=Lib.hid (show r=true by rw [R.out,decide_eq_true h3,Bool.or_true];rfl)
  clear h1 h3
  go_wp2
  go_ret
  exact ⟨ret_b R2.out.symm,rfl⟩
 have d3:(k == 3)=false:=by simp [h3]
 by_cases h5:k=5
 ·have d5:(k == 5)=true:=by simp [h5]
  have R2:=Lib.hid (show r=true by rw [R.out,decide_eq_true h5,Bool.or_true];rfl)
  clear h1 h3 h5
  go_wp2
  go_ret
  exact ⟨ret_b R2.out.symm,rfl⟩
 have d5:(k == 5)=false:=by simp [h5]
 by_cases h6:k=6
 ·have d6:(k == 6)=true:=by simp [h6]
  have R2:=Lib.hid (show r=true by rw [R.out,decide_eq_true h6,Bool.or_true])
  clear h1 h3 h5 h6
  go_wp2
  go_ret
  exact ⟨ret_b R2.out.symm,rfl⟩
 ·have d6:(k == 6)=false:=by simp [h6]
  have R2:=Lib.hid (show r=false by rw [R.out,decide_eq_false h1,decide_eq_false h3,decide_eq_false h5,decide_eq_false h6];rfl)
  clear h1 h3 h5 h6
  go_wp2
  go_ret
  exact ⟨ret_b R2.out.symm,rfl⟩
theorem less_rev {a b:ByteArray} (h:Op.bytesLess a.toList b.toList=true):Op.bytesLess b.toList a.toList=false∧(b.toList == a.toList)=false:=by
 rw [← str_less,decide_eq_true_iff] at h
 have h2:=cmpS_neg a b
 refine ⟨by rw [← str_less,decide_eq_false_iff_not];omega,?_⟩
 rw [beq_str,decide_eq_false_iff_not]
 intro e
 have:=(cmpS_zero b a).2 e
 omega
theorem less_not {a b:ByteArray} (h:Op.bytesLess a.toList b.toList=false):Op.bytesLess b.toList a.toList=true∨(b.toList == a.toList)=true:=by
 rw [← str_less,decide_eq_false_iff_not] at h
 have h2:=cmpS_neg a b
 by_cases e:b=a
 ·exact .inr (by rw [beq_str,e];exact decide_eq_true rfl)
 ·have:¬ cmpS b a=0:=fun h'=>e ((cmpS_zero b a).1 h')
  exact .inl (by rw [← str_less,decide_eq_true_iff];omega)
set_option maxRecDepth 100000 in
set_option maxHeartbeats 2000000 in
theorem query_rising (v:Value) (us:List ByteArray) (w:World) (hu:SlA w 1 v us.length (strs us)) (hz:∀ s∈us,s.size≤9223372036854775807):Calls Tryz.prog 169 #[v] w fun e w'=>e=.returned (.bool (rises us))∧Below w.heap.size w w':=by
 have HU:=Lib.hid hu
 have HUZ:=Lib.hid hz
 have hmax:=hu.max
 obtain ⟨wo,wc,rfl⟩:=hu.form
 clear hu hz
 have RY:=Lib.hid (fun k (hk:¬ k < us.length) h=>rises_yes (us:=us) (k:=k) hk h)
 have RN:=Lib.hid (fun k (hk:k < us.length) h=>rises_no (us:=us) (k:=k) hk h)
 generalize rises us=res at RY RN ⊢
 go_enter Tryz.func169,Tryz.ntmps169
 go_wp2_with fail
 go_loopw [7] (fun i wr => ∃ k:Nat,k≤us.length∧i=.int .i64 k∧Hid (Below w.heap.size w wr)∧Hid (∀ j,j < k→risesAt us j=true)) (fun i _=>us.length - (intOf i).toNat)
 case atStart=>exact ⟨0,by omega,rfl,Lib.hid (Below.refl _ _),Lib.hid (fun j h=>absurd h (by omega))⟩
 case round =>
  obtain ⟨k,hk,rfl,HB,HJ⟩:=hrel
  by_cases hlt:k < us.length
  ·obtain ⟨b1,o1,c1,he1,hc1,hm1,hb1,hx1⟩:=HU.out.pos (by omega)
   simp only [Value.slice.injEq,true_and] at he1
   obtain ⟨rfl,rfl⟩:=he1
   have p0:=(HB.out.cell (p:=⟨b1,o1+k,none⟩) hb1).trans (hx1 k _ (strs_get hlt))
   have hbr:b1 < wr.heap.size:=Nat.lt_of_lt_of_le hb1 HB.out.size
   have IP:=Lib.hid (fun W=>names_IsPrin us[k] W (HUZ.out _ (List.getElem_mem hlt)))
   have HRA:=Lib.hid (show risesAt us k=(isP 65 90 (bl us[k]) && (decide (k=0) || Op.bytesLess (us.getD (k - 1) emp).toList us[k].toList)) by unfold risesAt;rw [getD_at hlt])
   have HJS:Hid (risesAt us k=true→∀ j,j < k+1→risesAt us j=true):=Lib.hid (fun h j hj=>by
    by_cases e:j=k
    ·rw [e];exact h
    ·exact HJ.out j (by omega))
   have HNO:=Lib.hid (fun (h:risesAt us k=false)=>RN.out k hlt h)
   generalize isP 65 90 (bl us[k])=rp at IP HRA
   cases rp with
   | false =>
    clear hx1
    go_wp2_with fail
    refine (IP.out _).mono ?_
    rintro e w2 ⟨rfl,rfl⟩
    go_wp2
    go_ret
    exact ⟨ret_b (HNO.out (by rw [HRA.out];rfl)).symm,HB.out⟩
   | true =>
    by_cases hk0:k=0
    ·have dk:decide (0 < k)=false:=by (rw [decide_eq_false_iff_not];omega)
     have HS:=Lib.hid (HJS.out (by rw [HRA.out,decide_eq_true hk0];rfl))
     clear hx1 hk0
     go_wp2_with fail
     refine (IP.out _).mono ?_
     rintro e w2 ⟨rfl,rfl⟩
     go_wp2
     exact ⟨⟨k+1,by omega,by go_num,HB,HS⟩,by simp [intOf];omega⟩
    ·obtain ⟨m,hm⟩:∃ m,k=m+1:=⟨k - 1,by omega⟩
     have dk:decide (0 < k)=true:=by (rw [decide_eq_true_iff];omega)
     have hw1:IntKind.i64.wrap ((k:Int) - 1)=(m:Int):=by rw [show (k:Int) - 1=(m:Int) by omega];exact Go.IntWalk.i64_in _ (by omega)
     have hml:m < us.length:=by omega
     have hmi:(0:Int)≤(m:Int):=by omega
     have q0:=(HB.out.cell (p:=⟨b1,o1+m,none⟩) hb1).trans (hx1 m _ (strs_get hml))
     rw [decide_eq_false hk0,Bool.false_or,show k - 1=m by omega,getD_at hml,Bool.true_and] at HRA
     clear hx1 hk0 hm
     go_wp2_with fail
     refine (IP.out _).mono ?_
     rintro e w2 ⟨rfl,rfl⟩
     generalize us[k]=sk at *
     generalize us[m]=sm at *
     cases hbl:Op.bytesLess sm.toList sk.toList with
     | false =>
      have HBL:=Lib.hid hbl
      rcases less_not hbl with hl | hl <;> clear hbl
      all_goals
       go_wp2
       go_ret
       exact ⟨ret_b (HNO.out (by rw [HRA.out];exact HBL.out)).symm,HB.out⟩
     | true =>
      obtain ⟨hl1,hl2⟩:=less_rev hbl
      have HS:=Lib.hid (HJS.out (by rw [HRA.out];exact hbl))
      go_wp2
      exact ⟨⟨k+1,by omega,by go_num,HB,HS⟩,by simp [intOf];omega⟩
  ·have R:=Lib.hid (RY.out k hlt HJ.out)
   go_wp2
   go_ret
   exact ⟨ret_b R.out.symm,HB.out⟩
theorem noR_role:isRole noR=false:=by kernel_rfl
set_option maxRecDepth 100000 in
set_option maxHeartbeats 16000000 in
theorem query_RightL (q:Qv) (us:List ByteArray) (w:World) (hla:q.a.le 4294967) (hlb:q.b.le 4294967) (hu1:SlA w 1 q.w us.length (strs us)) (hu3:∀ s∈us,s.size≤9223372036854775807):Calls Tryz.prog 116 #[qv q] w fun e w'=>e=.returned (.bool (rightQ q us))∧Below w.heap.size w w':=by
 have RES:=Lib.hid (show rightQ q us=(decide (1≤q.k) && (decide (q.k≤6) && (isRole q.a && (rises us && (if 5≤q.k then isRole q.b && decide (us.length=0) else eqRl q.b noR && (decide (us.length≤12) && (if q.k=4 then decide (us.length=0) else decide (q.k=3) || decide (0 < us.length)))))))) from rfl)
 generalize rightQ q us=res at RES ⊢
 obtain ⟨xk,⟨x1,x2⟩,⟨x3,x4⟩,wv⟩:=q
 have hmax:=hu1.max
 dsimp only at RES hu1 hla hlb
 have IA:=Lib.hid (fun W=>syn_IsRole ⟨x1,x2⟩ W hla)
 have IB:=Lib.hid (fun W=>syn_IsRole ⟨x3,x4⟩ W hlb)
 have RI:=Lib.hid (fun W (hb:Below w.heap.size w W)=>query_rising wv us W (hu1.below hb) hu3)
 generalize isRole ⟨x1,x2⟩=ra at IA RES
 generalize rises us=ri at RI RES
 obtain ⟨wo,wc,rfl⟩:=hu1.form
 have HT:=Lib.hid (show OneAt w #[.int .i64 xk,.string x1,.string x2,.string x3,.string x4,.slice wo us.length wc] (w.alloc (.cells #[.int .i64 xk,.string x1,.string x2,.string x3,.string x4,.slice wo us.length wc] 83)) from ⟨Blk.new w _ _,(Below.refl _ _).alloc (Nat.le_refl _) _⟩)
 clear hla hlb hu1 hu3
 go_enter Tryz.func116,Tryz.ntmps116
 by_cases k1:xk < 1
 ·have d1:decide (xk < 1)=true:=decide_eq_true k1
  have R:=Lib.hid (show res=false by rw [RES.out,decide_eq_false (show ¬ 1≤xk by omega)];rfl)
  clear k1
  go_wp2
  go_ret
  exact ⟨ret_b R.out.symm,HT.out.low⟩
 have d1:decide (xk < 1)=false:=decide_eq_false k1
 by_cases k6:6 < xk
 ·have d6:decide (6 < xk)=true:=decide_eq_true k6
  have R:=Lib.hid (show res=false by rw [RES.out,decide_eq_true (show 1≤xk by omega),decide_eq_false (show ¬ xk≤6 by omega)];rfl)
  clear k1 k6
  go_wp2
  go_ret
  exact ⟨ret_b R.out.symm,HT.out.low⟩
 have d6:decide (6 < xk)=false:=decide_eq_false k6
 rw [decide_eq_true (show 1≤xk by omega),decide_eq_true (show xk≤6 by omega),Bool.true_and,Bool.true_and] at RES
 have HK:=Lib.hid (And.intro k1 k6)
 clear k1 k6
 go_wp2_with fail
 refine (IA.out _).mono ?_
 rintro e w1 ⟨rfl,hb1⟩
 have HT:=Lib.hid (HT.out.later hb1)
 clear hb1
 cases ra with
 | false =>
  go_wp2
  go_ret
  exact ⟨ret_b (by rw [RES.out];rfl),HT.out.low⟩
 | true =>
 rw [Bool.true_and] at RES
 obtain ⟨ca,fa,za⟩:=HT.out.a
 go_wp2_with fail
 refine (RI.out _ HT.out.low).mono ?_
 rintro e wr ⟨rfl,hb1⟩
 have HT:=Lib.hid (HT.out.later hb1)
 clear hb1 ca fa za RI
 cases ri with
 | false =>
  go_wp2
  go_ret
  exact ⟨ret_b (by rw [RES.out];rfl),HT.out.low⟩
 | true =>
 rw [Bool.true_and] at RES
 have hk:xk=1∨xk=2∨xk=3∨xk=4∨xk=5∨xk=6:=by have:=HK.out.1;have:=HK.out.2;omega
 clear HK d1 d6
 obtain ⟨eb,heb⟩:∃ e,eqRl ⟨x3,x4⟩ ⟨emp,emp⟩=e:=⟨_,rfl⟩
 have HEB:=Lib.hid heb
 have RBN:=Lib.hid (fun (h:eb=true)=>show isRole ⟨x3,x4⟩=false by rw [show (⟨x3,x4⟩:Rl)=noR from of_decide_eq_true (heb.trans h)];exact noR_role)
 clear heb
 rcases hk with rfl | rfl | rfl | rfl | rfl | rfl
 ·have RS:Hid (res=(eqRl ⟨x3,x4⟩ noR && (decide (us.length≤12) && decide (0 < us.length)))):=Lib.hid (RES.out.trans (by rfl))
  clear RES
  rw [show eqRl ⟨x3,x4⟩ noR=eb from HEB.out] at RS
  have SE:=Lib.hid (fun W=>query_secondB 1 W)
  have SB:=Lib.hid (show secB 1=false from rfl)
  rw [SB.out] at SE
  have LE:=Lib.hid (fun W=>query_least 1 W)
  rw [show leastI 1=1 from rfl] at LE
  have HNe:=fun W=>role_neq x3 x4 emp emp W
  rw [show eqRl ⟨x3,x4⟩ ⟨emp,emp⟩=eb from HEB.out] at HNe
  cases eb with
  | false =>
   simp only [Bool.not_false] at HNe
   go_wp2_with fail
   refine wp_region_held_drew (S:=(fun W => ∀ o,W.cell? ⟨w.heap.size,o,none⟩=(#[.int .i64 1,.string x1,.string x2,.string x3,.string x4,.slice wo us.length wc]:Array Value)[o]?)) (by kernel_rfl) HT.out.drew.a.1 (fun hHeld=>?_)
   have HT:=HT.out.drew
   obtain ⟨wk,hwk⟩:∃ W,W=wr.drew:=⟨_,rfl⟩
   rw [← hwk] at HT hHeld ⊢
   clear hwk
   (refine hyes 0 ?_);(refine hyes 1 ?_);(refine hyes 3 ?_);(refine hyes 4 ?_);(refine hyes 5 ?_);(refine hyes 6 ?_);(try simp only [Act.put,List.setIfInBounds_toArray,List.set])
   (refine held_call 2 rfl (by kernel_rfl) (fun K hK=>?_);go_simp)
   go_at_call 170;refine (SE.out _).mono ?_;rintro e wz2 ⟨rfl,rfl⟩
   (refine hK.out _ _ ((HT.a.1)) (fun hHeld=>?_);clear hK K;(try simp only [Act.put,List.setIfInBounds_toArray,List.set]))
   (refine hyes 7 ?_);(refine hyes 8 ?_);(try simp only [Act.put,List.setIfInBounds_toArray,List.set])
   (refine hno 9 ?_);(try simp only [Act.put,List.setIfInBounds_toArray,List.set])
   (refine hno 10 ?_);(try simp only [Act.put,List.setIfInBounds_toArray,List.set])
   (refine hno 11 ?_);(try simp only [Act.put,List.setIfInBounds_toArray,List.set])
   (refine hno 12 ?_);(try simp only [Act.put,List.setIfInBounds_toArray,List.set])
   (refine hno 13 ?_);(try simp only [Act.put,List.setIfInBounds_toArray,List.set])
   (refine hno 14 ?_);(try simp only [Act.put,List.setIfInBounds_toArray,List.set])
   (refine hno 15 ?_);(try simp only [Act.put,List.setIfInBounds_toArray,List.set])
   (refine hno 16 ?_);(try simp only [Act.put,List.setIfInBounds_toArray,List.set])
   (refine hno 17 ?_);(try simp only [Act.put,List.setIfInBounds_toArray,List.set])
   (refine hyes 18 ?_);(try simp only [Act.put,List.setIfInBounds_toArray,List.set])
   refine wpAnyH_done (by kernel_rfl) ?_ _
   have HTr:=Lib.hid HT
   clear HT
   go_wp2_with fail
   go_ret
   exact ⟨ret_b (by rw [RS.out];first | rfl | (simp [noR_role]) | (cases rb <;> simp_all)),HTr.out.low⟩
  | true =>
   simp only [Bool.not_true] at HNe
   go_wp2_with fail
   refine wp_region_held_drew (S:=(fun W => ∀ o,W.cell? ⟨w.heap.size,o,none⟩=(#[.int .i64 1,.string x1,.string x2,.string x3,.string x4,.slice wo us.length wc]:Array Value)[o]?)) (by kernel_rfl) HT.out.drew.a.1 (fun hHeld=>?_)
   have HT:=HT.out.drew
   obtain ⟨wk,hwk⟩:∃ W,W=wr.drew:=⟨_,rfl⟩
   rw [← hwk] at HT hHeld ⊢
   clear hwk
   (refine hyes 0 ?_);(refine hyes 1 ?_);(refine hyes 3 ?_);(refine hyes 4 ?_);(refine hyes 5 ?_);(refine hyes 6 ?_);(try simp only [Act.put,List.setIfInBounds_toArray,List.set])
   (refine held_call 2 rfl (by kernel_rfl) (fun K hK=>?_);go_simp)
   go_at_call 170;refine (SE.out _).mono ?_;rintro e wz2 ⟨rfl,rfl⟩
   (refine hK.out _ _ ((HT.a.1)) (fun hHeld=>?_);clear hK K;(try simp only [Act.put,List.setIfInBounds_toArray,List.set]))
   (refine hyes 7 ?_);(refine hyes 8 ?_);(refine hyes 9 ?_);(refine hyes 10 ?_);(try simp only [Act.put,List.setIfInBounds_toArray,List.set])
   (refine held_call 11 rfl (by kernel_rfl) (fun K hK=>?_);go_simp)
   go_at_call 170;refine (SE.out _).mono ?_;rintro e wz11 ⟨rfl,rfl⟩
   (refine hK.out _ _ ((HT.a.1)) (fun hHeld=>?_);clear hK K;(try simp only [Act.put,List.setIfInBounds_toArray,List.set]))
   (refine hyes 12 ?_);(try simp only [Act.put,List.setIfInBounds_toArray,List.set])
   (refine hno 13 ?_);(try simp only [Act.put,List.setIfInBounds_toArray,List.set])
   (refine hno 14 ?_);(try simp only [Act.put,List.setIfInBounds_toArray,List.set])
   (refine hno 15 ?_);(try simp only [Act.put,List.setIfInBounds_toArray,List.set])
   (refine hno 16 ?_);(try simp only [Act.put,List.setIfInBounds_toArray,List.set])
   (refine hyes 17 ?_);(refine hyes 18 ?_);(try simp only [Act.put,List.setIfInBounds_toArray,List.set])
   refine wpAnyH_done (by kernel_rfl) ?_ _
   have HTr:=Lib.hid HT
   clear HT
   obtain ⟨ca,fa,za⟩:=HTr.out.a
   go_wp2_with fail
   refine (LE.out _).mono ?_
   rintro e wl ⟨rfl,rfl⟩
   by_cases h0:us.length=0
   ·have e0:((us.length:Int) == 0)=true:=by rw [beq_iff_eq];omega
    have e3:decide ((us.length:Int)≤12)=true:=decide_eq_true (by omega)
    have e4:decide ((1:Int)≤(us.length:Int))=false:=decide_eq_false (by omega)
    have e5:decide ((0:Int)≤(us.length:Int))=true:=decide_eq_true (by omega)
    rw [h0] at RS
    go_wp2_with fail
    go_ret
    exact ⟨ret_b (by rw [RS.out];rfl),HTr.out.low⟩
   ·by_cases h12:us.length≤12
    ·have e0:((us.length:Int) == 0)=false:=by rw [beq_eq_false_iff_ne];omega
     have e3:decide ((us.length:Int)≤12)=true:=decide_eq_true (by omega)
     have e4:decide ((1:Int)≤(us.length:Int))=true:=decide_eq_true (by omega)
     have e5:decide ((0:Int)≤(us.length:Int))=true:=decide_eq_true (by omega)
     (try rw [decide_eq_false h0] at RS);(try rw [decide_eq_true h12] at RS);(try rw [decide_eq_true (show 0 < us.length by omega)] at RS)
     go_wp2_with fail
     go_ret
     exact ⟨ret_b (by rw [RS.out];rfl),HTr.out.low⟩
    ·have e0:((us.length:Int) == 0)=false:=by rw [beq_eq_false_iff_ne];omega
     have e3:decide ((us.length:Int)≤12)=false:=decide_eq_false (by omega)
     have e4:decide ((1:Int)≤(us.length:Int))=true:=decide_eq_true (by omega)
     have e5:decide ((0:Int)≤(us.length:Int))=true:=decide_eq_true (by omega)
     (try rw [decide_eq_false h0] at RS);(try rw [decide_eq_false h12] at RS);(try rw [decide_eq_true (show 0 < us.length by omega)] at RS)
     go_wp2_with fail
     go_ret
     exact ⟨ret_b (by rw [RS.out];rfl),HTr.out.low⟩
 ·have RS:Hid (res=(eqRl ⟨x3,x4⟩ noR && (decide (us.length≤12) && decide (0 < us.length)))):=Lib.hid (RES.out.trans (by rfl))
  clear RES
  rw [show eqRl ⟨x3,x4⟩ noR=eb from HEB.out] at RS
  have SE:=Lib.hid (fun W=>query_secondB 2 W)
  have SB:=Lib.hid (show secB 2=false from rfl)
  rw [SB.out] at SE
  have LE:=Lib.hid (fun W=>query_least 2 W)
  rw [show leastI 2=1 from rfl] at LE
  have HNe:=fun W=>role_neq x3 x4 emp emp W
  rw [show eqRl ⟨x3,x4⟩ ⟨emp,emp⟩=eb from HEB.out] at HNe
  cases eb with
  | false =>
   simp only [Bool.not_false] at HNe
   go_wp2_with fail
   refine wp_region_held_drew (S:=(fun W => ∀ o,W.cell? ⟨w.heap.size,o,none⟩=(#[.int .i64 2,.string x1,.string x2,.string x3,.string x4,.slice wo us.length wc]:Array Value)[o]?)) (by kernel_rfl) HT.out.drew.a.1 (fun hHeld=>?_)
   have HT:=HT.out.drew
   obtain ⟨wk,hwk⟩:∃ W,W=wr.drew:=⟨_,rfl⟩
   rw [← hwk] at HT hHeld ⊢
   clear hwk
   (refine hyes 0 ?_);(refine hyes 1 ?_);(refine hyes 3 ?_);(refine hyes 4 ?_);(refine hyes 5 ?_);(refine hyes 6 ?_);(try simp only [Act.put,List.setIfInBounds_toArray,List.set])
   (refine held_call 2 rfl (by kernel_rfl) (fun K hK=>?_);go_simp)
   go_at_call 170;refine (SE.out _).mono ?_;rintro e wz2 ⟨rfl,rfl⟩
   (refine hK.out _ _ ((HT.a.1)) (fun hHeld=>?_);clear hK K;(try simp only [Act.put,List.setIfInBounds_toArray,List.set]))
   (refine hyes 7 ?_);(refine hyes 8 ?_);(try simp only [Act.put,List.setIfInBounds_toArray,List.set])
   (refine hno 9 ?_);(try simp only [Act.put,List.setIfInBounds_toArray,List.set])
   (refine hno 10 ?_);(try simp only [Act.put,List.setIfInBounds_toArray,List.set])
   (refine hno 11 ?_);(try simp only [Act.put,List.setIfInBounds_toArray,List.set])
   (refine hno 12 ?_);(try simp only [Act.put,List.setIfInBounds_toArray,List.set])
   (refine hno 13 ?_);(try simp only [Act.put,List.setIfInBounds_toArray,List.set])
   (refine hno 14 ?_);(try simp only [Act.put,List.setIfInBounds_toArray,List.set])
   (refine hno 15 ?_);(try simp only [Act.put,List.setIfInBounds_toArray,List.set])
   (refine hno 16 ?_);(try simp only [Act.put,List.setIfInBounds_toArray,List.set])
   (refine hno 17 ?_);(try simp only [Act.put,List.setIfInBounds_toArray,List.set])
   (refine hyes 18 ?_);(try simp only [Act.put,List.setIfInBounds_toArray,List.set])
   refine wpAnyH_done (by kernel_rfl) ?_ _
   have HTr:=Lib.hid HT
   clear HT
   go_wp2_with fail
   go_ret
   exact ⟨ret_b (by rw [RS.out];first | rfl | (simp [noR_role]) | (cases rb <;> simp_all)),HTr.out.low⟩
  | true =>
   simp only [Bool.not_true] at HNe
   go_wp2_with fail
   refine wp_region_held_drew (S:=(fun W => ∀ o,W.cell? ⟨w.heap.size,o,none⟩=(#[.int .i64 2,.string x1,.string x2,.string x3,.string x4,.slice wo us.length wc]:Array Value)[o]?)) (by kernel_rfl) HT.out.drew.a.1 (fun hHeld=>?_)
   have HT:=HT.out.drew
   obtain ⟨wk,hwk⟩:∃ W,W=wr.drew:=⟨_,rfl⟩
   rw [← hwk] at HT hHeld ⊢
   clear hwk
   (refine hyes 0 ?_);(refine hyes 1 ?_);(refine hyes 3 ?_);(refine hyes 4 ?_);(refine hyes 5 ?_);(refine hyes 6 ?_);(try simp only [Act.put,List.setIfInBounds_toArray,List.set])
   (refine held_call 2 rfl (by kernel_rfl) (fun K hK=>?_);go_simp)
   go_at_call 170;refine (SE.out _).mono ?_;rintro e wz2 ⟨rfl,rfl⟩
   (refine hK.out _ _ ((HT.a.1)) (fun hHeld=>?_);clear hK K;(try simp only [Act.put,List.setIfInBounds_toArray,List.set]))
   (refine hyes 7 ?_);(refine hyes 8 ?_);(refine hyes 9 ?_);(refine hyes 10 ?_);(try simp only [Act.put,List.setIfInBounds_toArray,List.set])
   (refine held_call 11 rfl (by kernel_rfl) (fun K hK=>?_);go_simp)
   go_at_call 170;refine (SE.out _).mono ?_;rintro e wz11 ⟨rfl,rfl⟩
   (refine hK.out _ _ ((HT.a.1)) (fun hHeld=>?_);clear hK K;(try simp only [Act.put,List.setIfInBounds_toArray,List.set]))
   (refine hyes 12 ?_);(try simp only [Act.put,List.setIfInBounds_toArray,List.set])
   (refine hno 13 ?_);(try simp only [Act.put,List.setIfInBounds_toArray,List.set])
   (refine hno 14 ?_);(try simp only [Act.put,List.setIfInBounds_toArray,List.set])
   (refine hno 15 ?_);(try simp only [Act.put,List.setIfInBounds_toArray,List.set])
   (refine hno 16 ?_);(try simp only [Act.put,List.setIfInBounds_toArray,List.set])
   (refine hyes 17 ?_);(refine hyes 18 ?_);(try simp only [Act.put,List.setIfInBounds_toArray,List.set])
   refine wpAnyH_done (by kernel_rfl) ?_ _
   have HTr:=Lib.hid HT
   clear HT
   obtain ⟨ca,fa,za⟩:=HTr.out.a
   go_wp2_with fail
   refine (LE.out _).mono ?_
   rintro e wl ⟨rfl,rfl⟩
   by_cases h0:us.length=0
   ·have e0:((us.length:Int) == 0)=true:=by rw [beq_iff_eq];omega
    have e3:decide ((us.length:Int)≤12)=true:=decide_eq_true (by omega)
    have e4:decide ((1:Int)≤(us.length:Int))=false:=decide_eq_false (by omega)
    have e5:decide ((0:Int)≤(us.length:Int))=true:=decide_eq_true (by omega)
    rw [h0] at RS
    go_wp2_with fail
    go_ret
    exact ⟨ret_b (by rw [RS.out];rfl),HTr.out.low⟩
   ·by_cases h12:us.length≤12
    ·have e0:((us.length:Int) == 0)=false:=by rw [beq_eq_false_iff_ne];omega
     have e3:decide ((us.length:Int)≤12)=true:=decide_eq_true (by omega)
     have e4:decide ((1:Int)≤(us.length:Int))=true:=decide_eq_true (by omega)
     have e5:decide ((0:Int)≤(us.length:Int))=true:=decide_eq_true (by omega)
     (try rw [decide_eq_false h0] at RS);(try rw [decide_eq_true h12] at RS);(try rw [decide_eq_true (show 0 < us.length by omega)] at RS)
     go_wp2_with fail
     go_ret
     exact ⟨ret_b (by rw [RS.out];rfl),HTr.out.low⟩
    ·have e0:((us.length:Int) == 0)=false:=by rw [beq_eq_false_iff_ne];omega
     have e3:decide ((us.length:Int)≤12)=false:=decide_eq_false (by omega)
     have e4:decide ((1:Int)≤(us.length:Int))=true:=decide_eq_true (by omega)
     have e5:decide ((0:Int)≤(us.length:Int))=true:=decide_eq_true (by omega)
     (try rw [decide_eq_false h0] at RS);(try rw [decide_eq_false h12] at RS);(try rw [decide_eq_true (show 0 < us.length by omega)] at RS)
     go_wp2_with fail
     go_ret
     exact ⟨ret_b (by rw [RS.out];rfl),HTr.out.low⟩
 ·have RS:Hid (res=(eqRl ⟨x3,x4⟩ noR && (decide (us.length≤12) && true))):=Lib.hid (RES.out.trans (by rfl))
  clear RES
  rw [show eqRl ⟨x3,x4⟩ noR=eb from HEB.out] at RS
  have SE:=Lib.hid (fun W=>query_secondB 3 W)
  have SB:=Lib.hid (show secB 3=false from rfl)
  rw [SB.out] at SE
  have LE:=Lib.hid (fun W=>query_least 3 W)
  rw [show leastI 3=0 from rfl] at LE
  have HNe:=fun W=>role_neq x3 x4 emp emp W
  rw [show eqRl ⟨x3,x4⟩ ⟨emp,emp⟩=eb from HEB.out] at HNe
  cases eb with
  | false =>
   simp only [Bool.not_false] at HNe
   go_wp2_with fail
   refine wp_region_held_drew (S:=(fun W => ∀ o,W.cell? ⟨w.heap.size,o,none⟩=(#[.int .i64 3,.string x1,.string x2,.string x3,.string x4,.slice wo us.length wc]:Array Value)[o]?)) (by kernel_rfl) HT.out.drew.a.1 (fun hHeld=>?_)
   have HT:=HT.out.drew
   obtain ⟨wk,hwk⟩:∃ W,W=wr.drew:=⟨_,rfl⟩
   rw [← hwk] at HT hHeld ⊢
   clear hwk
   (refine hyes 0 ?_);(refine hyes 1 ?_);(refine hyes 3 ?_);(refine hyes 4 ?_);(refine hyes 5 ?_);(refine hyes 6 ?_);(try simp only [Act.put,List.setIfInBounds_toArray,List.set])
   (refine held_call 2 rfl (by kernel_rfl) (fun K hK=>?_);go_simp)
   go_at_call 170;refine (SE.out _).mono ?_;rintro e wz2 ⟨rfl,rfl⟩
   (refine hK.out _ _ ((HT.a.1)) (fun hHeld=>?_);clear hK K;(try simp only [Act.put,List.setIfInBounds_toArray,List.set]))
   (refine hyes 7 ?_);(refine hyes 8 ?_);(try simp only [Act.put,List.setIfInBounds_toArray,List.set])
   (refine hno 9 ?_);(try simp only [Act.put,List.setIfInBounds_toArray,List.set])
   (refine hno 10 ?_);(try simp only [Act.put,List.setIfInBounds_toArray,List.set])
   (refine hno 11 ?_);(try simp only [Act.put,List.setIfInBounds_toArray,List.set])
   (refine hno 12 ?_);(try simp only [Act.put,List.setIfInBounds_toArray,List.set])
   (refine hno 13 ?_);(try simp only [Act.put,List.setIfInBounds_toArray,List.set])
   (refine hno 14 ?_);(try simp only [Act.put,List.setIfInBounds_toArray,List.set])
   (refine hno 15 ?_);(try simp only [Act.put,List.setIfInBounds_toArray,List.set])
   (refine hno 16 ?_);(try simp only [Act.put,List.setIfInBounds_toArray,List.set])
   (refine hno 17 ?_);(try simp only [Act.put,List.setIfInBounds_toArray,List.set])
   (refine hyes 18 ?_);(try simp only [Act.put,List.setIfInBounds_toArray,List.set])
   refine wpAnyH_done (by kernel_rfl) ?_ _
   have HTr:=Lib.hid HT
   clear HT
   go_wp2_with fail
   go_ret
   exact ⟨ret_b (by rw [RS.out];first | rfl | (simp [noR_role]) | (cases rb <;> simp_all)),HTr.out.low⟩
  | true =>
   simp only [Bool.not_true] at HNe
   go_wp2_with fail
   refine wp_region_held_drew (S:=(fun W => ∀ o,W.cell? ⟨w.heap.size,o,none⟩=(#[.int .i64 3,.string x1,.string x2,.string x3,.string x4,.slice wo us.length wc]:Array Value)[o]?)) (by kernel_rfl) HT.out.drew.a.1 (fun hHeld=>?_)
   have HT:=HT.out.drew
   obtain ⟨wk,hwk⟩:∃ W,W=wr.drew:=⟨_,rfl⟩
   rw [← hwk] at HT hHeld ⊢
   clear hwk
   (refine hyes 0 ?_);(refine hyes 1 ?_);(refine hyes 3 ?_);(refine hyes 4 ?_);(refine hyes 5 ?_);(refine hyes 6 ?_);(try simp only [Act.put,List.setIfInBounds_toArray,List.set])
   (refine held_call 2 rfl (by kernel_rfl) (fun K hK=>?_);go_simp)
   go_at_call 170;refine (SE.out _).mono ?_;rintro e wz2 ⟨rfl,rfl⟩
   (refine hK.out _ _ ((HT.a.1)) (fun hHeld=>?_);clear hK K;(try simp only [Act.put,List.setIfInBounds_toArray,List.set]))
   (refine hyes 7 ?_);(refine hyes 8 ?_);(refine hyes 9 ?_);(refine hyes 10 ?_);(try simp only [Act.put,List.setIfInBounds_toArray,List.set])
   (refine held_call 11 rfl (by kernel_rfl) (fun K hK=>?_);go_simp)
   go_at_call 170;refine (SE.out _).mono ?_;rintro e wz11 ⟨rfl,rfl⟩
   (refine hK.out _ _ ((HT.a.1)) (fun hHeld=>?_);clear hK K;(try simp only [Act.put,List.setIfInBounds_toArray,List.set]))
   (refine hyes 12 ?_);(try simp only [Act.put,List.setIfInBounds_toArray,List.set])
   (refine hno 13 ?_);(try simp only [Act.put,List.setIfInBounds_toArray,List.set])
   (refine hno 14 ?_);(try simp only [Act.put,List.setIfInBounds_toArray,List.set])
   (refine hno 15 ?_);(try simp only [Act.put,List.setIfInBounds_toArray,List.set])
   (refine hno 16 ?_);(try simp only [Act.put,List.setIfInBounds_toArray,List.set])
   (refine hyes 17 ?_);(refine hyes 18 ?_);(try simp only [Act.put,List.setIfInBounds_toArray,List.set])
   refine wpAnyH_done (by kernel_rfl) ?_ _
   have HTr:=Lib.hid HT
   clear HT
   obtain ⟨ca,fa,za⟩:=HTr.out.a
   go_wp2_with fail
   refine (LE.out _).mono ?_
   rintro e wl ⟨rfl,rfl⟩
   by_cases h0:us.length=0
   ·have e0:((us.length:Int) == 0)=true:=by rw [beq_iff_eq];omega
    have e3:decide ((us.length:Int)≤12)=true:=decide_eq_true (by omega)
    have e4:decide ((1:Int)≤(us.length:Int))=false:=decide_eq_false (by omega)
    have e5:decide ((0:Int)≤(us.length:Int))=true:=decide_eq_true (by omega)
    rw [h0] at RS
    go_wp2_with fail
    go_ret
    exact ⟨ret_b (by rw [RS.out];rfl),HTr.out.low⟩
   ·by_cases h12:us.length≤12
    ·have e0:((us.length:Int) == 0)=false:=by rw [beq_eq_false_iff_ne];omega
     have e3:decide ((us.length:Int)≤12)=true:=decide_eq_true (by omega)
     have e4:decide ((1:Int)≤(us.length:Int))=true:=decide_eq_true (by omega)
     have e5:decide ((0:Int)≤(us.length:Int))=true:=decide_eq_true (by omega)
     (try rw [decide_eq_false h0] at RS);(try rw [decide_eq_true h12] at RS);(try rw [decide_eq_true (show 0 < us.length by omega)] at RS)
     go_wp2_with fail
     go_ret
     exact ⟨ret_b (by rw [RS.out];rfl),HTr.out.low⟩
    ·have e0:((us.length:Int) == 0)=false:=by rw [beq_eq_false_iff_ne];omega
     have e3:decide ((us.length:Int)≤12)=false:=decide_eq_false (by omega)
     have e4:decide ((1:Int)≤(us.length:Int))=true:=decide_eq_true (by omega)
     have e5:decide ((0:Int)≤(us.length:Int))=true:=decide_eq_true (by omega)
     (try rw [decide_eq_false h0] at RS);(try rw [decide_eq_false h12] at RS);(try rw [decide_eq_true (show 0 < us.length by omega)] at RS)
     go_wp2_with fail
     go_ret
     exact ⟨ret_b (by rw [RS.out];rfl),HTr.out.low⟩
 ·have RS:Hid (res=(eqRl ⟨x3,x4⟩ noR && (decide (us.length≤12) && decide (us.length=0)))):=Lib.hid (RES.out.trans (by rfl))
  clear RES
  rw [show eqRl ⟨x3,x4⟩ noR=eb from HEB.out] at RS
  have SE:=Lib.hid (fun W=>query_secondB 4 W)
  have SB:=Lib.hid (show secB 4=false from rfl)
  rw [SB.out] at SE
  have LE:=Lib.hid (fun W=>query_least 4 W)
  rw [show leastI 4 = -1 from rfl] at LE
  have HNe:=fun W=>role_neq x3 x4 emp emp W
  rw [show eqRl ⟨x3,x4⟩ ⟨emp,emp⟩=eb from HEB.out] at HNe
  cases eb with
  | false =>
   simp only [Bool.not_false] at HNe
   go_wp2_with fail
   refine wp_region_held_drew (S:=(fun W => ∀ o,W.cell? ⟨w.heap.size,o,none⟩=(#[.int .i64 4,.string x1,.string x2,.string x3,.string x4,.slice wo us.length wc]:Array Value)[o]?)) (by kernel_rfl) HT.out.drew.a.1 (fun hHeld=>?_)
   have HT:=HT.out.drew
   obtain ⟨wk,hwk⟩:∃ W,W=wr.drew:=⟨_,rfl⟩
   rw [← hwk] at HT hHeld ⊢
   clear hwk
   (refine hyes 0 ?_);(refine hyes 1 ?_);(refine hyes 3 ?_);(refine hyes 4 ?_);(refine hyes 5 ?_);(refine hyes 6 ?_);(try simp only [Act.put,List.setIfInBounds_toArray,List.set])
   (refine held_call 2 rfl (by kernel_rfl) (fun K hK=>?_);go_simp)
   go_at_call 170;refine (SE.out _).mono ?_;rintro e wz2 ⟨rfl,rfl⟩
   (refine hK.out _ _ ((HT.a.1)) (fun hHeld=>?_);clear hK K;(try simp only [Act.put,List.setIfInBounds_toArray,List.set]))
   (refine hyes 7 ?_);(refine hyes 8 ?_);(try simp only [Act.put,List.setIfInBounds_toArray,List.set])
   (refine hno 9 ?_);(try simp only [Act.put,List.setIfInBounds_toArray,List.set])
   (refine hno 10 ?_);(try simp only [Act.put,List.setIfInBounds_toArray,List.set])
   (refine hno 11 ?_);(try simp only [Act.put,List.setIfInBounds_toArray,List.set])
   (refine hno 12 ?_);(try simp only [Act.put,List.setIfInBounds_toArray,List.set])
   (refine hno 13 ?_);(try simp only [Act.put,List.setIfInBounds_toArray,List.set])
   (refine hno 14 ?_);(try simp only [Act.put,List.setIfInBounds_toArray,List.set])
   (refine hno 15 ?_);(try simp only [Act.put,List.setIfInBounds_toArray,List.set])
   (refine hno 16 ?_);(try simp only [Act.put,List.setIfInBounds_toArray,List.set])
   (refine hno 17 ?_);(try simp only [Act.put,List.setIfInBounds_toArray,List.set])
   (refine hyes 18 ?_);(try simp only [Act.put,List.setIfInBounds_toArray,List.set])
   refine wpAnyH_done (by kernel_rfl) ?_ _
   have HTr:=Lib.hid HT
   clear HT
   go_wp2_with fail
   go_ret
   exact ⟨ret_b (by rw [RS.out];first | rfl | (simp [noR_role]) | (cases rb <;> simp_all)),HTr.out.low⟩
  | true =>
   simp only [Bool.not_true] at HNe
   go_wp2_with fail
   refine wp_region_held_drew (S:=(fun W => ∀ o,W.cell? ⟨w.heap.size,o,none⟩=(#[.int .i64 4,.string x1,.string x2,.string x3,.string x4,.slice wo us.length wc]:Array Value)[o]?)) (by kernel_rfl) HT.out.drew.a.1 (fun hHeld=>?_)
   have HT:=HT.out.drew
   obtain ⟨wk,hwk⟩:∃ W,W=wr.drew:=⟨_,rfl⟩
   rw [← hwk] at HT hHeld ⊢
   clear hwk
   (refine hyes 0 ?_);(refine hyes 1 ?_);(refine hyes 3 ?_);(refine hyes 4 ?_);(refine hyes 5 ?_);(refine hyes 6 ?_);(try simp only [Act.put,List.setIfInBounds_toArray,List.set])
   (refine held_call 2 rfl (by kernel_rfl) (fun K hK=>?_);go_simp)
   go_at_call 170;refine (SE.out _).mono ?_;rintro e wz2 ⟨rfl,rfl⟩
   (refine hK.out _ _ ((HT.a.1)) (fun hHeld=>?_);clear hK K;(try simp only [Act.put,List.setIfInBounds_toArray,List.set]))
   (refine hyes 7 ?_);(refine hyes 8 ?_);(refine hyes 9 ?_);(refine hyes 10 ?_);(try simp only [Act.put,List.setIfInBounds_toArray,List.set])
   (refine held_call 11 rfl (by kernel_rfl) (fun K hK=>?_);go_simp)
   go_at_call 170;refine (SE.out _).mono ?_;rintro e wz11 ⟨rfl,rfl⟩
   (refine hK.out _ _ ((HT.a.1)) (fun hHeld=>?_);clear hK K;(try simp only [Act.put,List.setIfInBounds_toArray,List.set]))
   (refine hyes 12 ?_);(try simp only [Act.put,List.setIfInBounds_toArray,List.set])
   (refine hno 13 ?_);(try simp only [Act.put,List.setIfInBounds_toArray,List.set])
   (refine hno 14 ?_);(try simp only [Act.put,List.setIfInBounds_toArray,List.set])
   (refine hno 15 ?_);(try simp only [Act.put,List.setIfInBounds_toArray,List.set])
   (refine hno 16 ?_);(try simp only [Act.put,List.setIfInBounds_toArray,List.set])
   (refine hyes 17 ?_);(refine hyes 18 ?_);(try simp only [Act.put,List.setIfInBounds_toArray,List.set])
   refine wpAnyH_done (by kernel_rfl) ?_ _
   have HTr:=Lib.hid HT
   clear HT
   obtain ⟨ca,fa,za⟩:=HTr.out.a
   go_wp2_with fail
   refine (LE.out _).mono ?_
   rintro e wl ⟨rfl,rfl⟩
   by_cases h0:us.length=0
   ·have e0:((us.length:Int) == 0)=true:=by rw [beq_iff_eq];omega
    have e3:decide ((us.length:Int)≤12)=true:=decide_eq_true (by omega)
    have e4:decide ((1:Int)≤(us.length:Int))=false:=decide_eq_false (by omega)
    have e5:decide ((0:Int)≤(us.length:Int))=true:=decide_eq_true (by omega)
    rw [h0] at RS
    go_wp2_with fail
    go_ret
    exact ⟨ret_b (by rw [RS.out];rfl),HTr.out.low⟩
   ·by_cases h12:us.length≤12
    ·have e0:((us.length:Int) == 0)=false:=by rw [beq_eq_false_iff_ne];omega
     have e3:decide ((us.length:Int)≤12)=true:=decide_eq_true (by omega)
     have e4:decide ((1:Int)≤(us.length:Int))=true:=decide_eq_true (by omega)
     have e5:decide ((0:Int)≤(us.length:Int))=true:=decide_eq_true (by omega)
     (try rw [decide_eq_false h0] at RS);(try rw [decide_eq_true h12] at RS);(try rw [decide_eq_true (show 0 < us.length by omega)] at RS)
     go_wp2_with fail
     go_ret
     exact ⟨ret_b (by rw [RS.out];rfl),HTr.out.low⟩
    ·have e0:((us.length:Int) == 0)=false:=by rw [beq_eq_false_iff_ne];omega
     have e3:decide ((us.length:Int)≤12)=false:=decide_eq_false (by omega)
     have e4:decide ((1:Int)≤(us.length:Int))=true:=decide_eq_true (by omega)
     have e5:decide ((0:Int)≤(us.length:Int))=true:=decide_eq_true (by omega)
     (try rw [decide_eq_false h0] at RS);(try rw [decide_eq_false h12] at RS);(try rw [decide_eq_true (show 0 < us.length by omega)] at RS)
     go_wp2_with fail
     go_ret
     exact ⟨ret_b (by rw [RS.out];rfl),HTr.out.low⟩
 ·have RS:Hid (res=(isRole ⟨x3,x4⟩ && decide (us.length=0))):=Lib.hid (RES.out.trans (by rfl))
  clear RES
  generalize isRole ⟨x3,x4⟩=rb at IB RS RBN
  have SE:=Lib.hid (fun W=>query_secondB 5 W)
  have SB:=Lib.hid (show secB 5=true from rfl)
  rw [SB.out] at SE
  have LE:=Lib.hid (fun W=>query_least 5 W)
  rw [show leastI 5 = -1 from rfl] at LE
  have HNe:=fun W=>role_neq x3 x4 emp emp W
  rw [show eqRl ⟨x3,x4⟩ ⟨emp,emp⟩=eb from HEB.out] at HNe
  cases eb with
  | false =>
   simp only [Bool.not_false] at HNe
   cases rb with
   | false =>
    go_wp2_with fail
    refine wp_region_held_drew (S:=(fun W => ∀ o,W.cell? ⟨w.heap.size,o,none⟩=(#[.int .i64 5,.string x1,.string x2,.string x3,.string x4,.slice wo us.length wc]:Array Value)[o]?)) (by kernel_rfl) HT.out.drew.a.1 (fun hHeld=>?_)
    have HT:=HT.out.drew
    obtain ⟨wk,hwk⟩:∃ W,W=wr.drew:=⟨_,rfl⟩
    rw [← hwk] at HT hHeld ⊢
    clear hwk
    (refine hyes 0 ?_);(refine hyes 1 ?_);(refine hyes 3 ?_);(refine hyes 4 ?_);(refine hyes 5 ?_);(refine hyes 6 ?_);(try simp only [Act.put,List.setIfInBounds_toArray,List.set])
    (refine held_call 2 rfl (by kernel_rfl) (fun K hK=>?_);go_simp)
    go_at_call 170;refine (SE.out _).mono ?_;rintro e wz2 ⟨rfl,rfl⟩
    (refine hK.out _ _ ((HT.a.1)) (fun hHeld=>?_);clear hK K;(try simp only [Act.put,List.setIfInBounds_toArray,List.set]))
    (refine hyes 7 ?_);(refine hyes 8 ?_);(refine hyes 9 ?_);(refine hyes 10 ?_);(try simp only [Act.put,List.setIfInBounds_toArray,List.set])
    (refine held_call 11 rfl (by kernel_rfl) (fun K hK=>?_);go_simp)
    go_at_call 170;refine (SE.out _).mono ?_;rintro e wz11 ⟨rfl,rfl⟩
    (refine hK.out _ _ ((HT.a.1)) (fun hHeld=>?_);clear hK K;(try simp only [Act.put,List.setIfInBounds_toArray,List.set]))
    (refine hyes 12 ?_);(refine hyes 13 ?_);(refine hyes 14 ?_);(try simp only [Act.put,List.setIfInBounds_toArray,List.set])
    (refine held_call 15 rfl (by kernel_rfl) (fun K hK=>?_);go_simp)
    go_at_call 108;refine (IB.out _).mono ?_;rintro e wz15 ⟨rfl,hbq⟩
    have HT:=HT.later hbq
    clear hbq
    (refine hK.out _ _ ((HT.a.1)) (fun hHeld=>?_);clear hK K;(try simp only [Act.put,List.setIfInBounds_toArray,List.set]))
    (refine hyes 16 ?_);(refine hyes 17 ?_);(refine hyes 18 ?_);(try simp only [Act.put,List.setIfInBounds_toArray,List.set])
    refine wpAnyH_done (by kernel_rfl) ?_ _
    have HTr:=Lib.hid HT
    clear HT
    go_wp2_with fail
    go_ret
    exact ⟨ret_b (by rw [RS.out];rfl),HTr.out.low⟩
   | true =>
    go_wp2_with fail
    refine wp_region_held_drew (S:=(fun W => ∀ o,W.cell? ⟨w.heap.size,o,none⟩=(#[.int .i64 5,.string x1,.string x2,.string x3,.string x4,.slice wo us.length wc]:Array Value)[o]?)) (by kernel_rfl) HT.out.drew.a.1 (fun hHeld=>?_)
    have HT:=HT.out.drew
    obtain ⟨wk,hwk⟩:∃ W,W=wr.drew:=⟨_,rfl⟩
    rw [← hwk] at HT hHeld ⊢
    clear hwk
    (refine hyes 0 ?_);(refine hyes 1 ?_);(refine hyes 3 ?_);(refine hyes 4 ?_);(refine hyes 5 ?_);(refine hyes 6 ?_);(try simp only [Act.put,List.setIfInBounds_toArray,List.set])
    (refine held_call 2 rfl (by kernel_rfl) (fun K hK=>?_);go_simp)
    go_at_call 170;refine (SE.out _).mono ?_;rintro e wz2 ⟨rfl,rfl⟩
    (refine hK.out _ _ ((HT.a.1)) (fun hHeld=>?_);clear hK K;(try simp only [Act.put,List.setIfInBounds_toArray,List.set]))
    (refine hyes 7 ?_);(refine hyes 8 ?_);(refine hyes 9 ?_);(refine hyes 10 ?_);(try simp only [Act.put,List.setIfInBounds_toArray,List.set])
    (refine held_call 11 rfl (by kernel_rfl) (fun K hK=>?_);go_simp)
    go_at_call 170;refine (SE.out _).mono ?_;rintro e wz11 ⟨rfl,rfl⟩
    (refine hK.out _ _ ((HT.a.1)) (fun hHeld=>?_);clear hK K;(try simp only [Act.put,List.setIfInBounds_toArray,List.set]))
    (refine hyes 12 ?_);(refine hyes 13 ?_);(refine hyes 14 ?_);(try simp only [Act.put,List.setIfInBounds_toArray,List.set])
    (refine held_call 15 rfl (by kernel_rfl) (fun K hK=>?_);go_simp)
    go_at_call 108;refine (IB.out _).mono ?_;rintro e wz15 ⟨rfl,hbq⟩
    have HT:=HT.later hbq
    clear hbq
    (refine hK.out _ _ ((HT.a.1)) (fun hHeld=>?_);clear hK K;(try simp only [Act.put,List.setIfInBounds_toArray,List.set]))
    (refine hyes 16 ?_);(refine hyes 17 ?_);(refine hyes 18 ?_);(try simp only [Act.put,List.setIfInBounds_toArray,List.set])
    refine wpAnyH_done (by kernel_rfl) ?_ _
    have HTr:=Lib.hid HT
    clear HT
    obtain ⟨ca,fa,za⟩:=HTr.out.a
    go_wp2_with fail
    refine (LE.out _).mono ?_
    rintro e wl ⟨rfl,rfl⟩
    by_cases h0:us.length=0
    ·have e0:((us.length:Int) == 0)=true:=by rw [beq_iff_eq];omega
     have e3:decide ((us.length:Int)≤12)=true:=decide_eq_true (by omega)
     have e4:decide ((1:Int)≤(us.length:Int))=false:=decide_eq_false (by omega)
     have e5:decide ((0:Int)≤(us.length:Int))=true:=decide_eq_true (by omega)
     rw [h0] at RS
     go_wp2_with fail
     go_ret
     exact ⟨ret_b (by rw [RS.out];rfl),HTr.out.low⟩
    ·by_cases h12:us.length≤12
     ·have e0:((us.length:Int) == 0)=false:=by rw [beq_eq_false_iff_ne];omega
      have e3:decide ((us.length:Int)≤12)=true:=decide_eq_true (by omega)
      have e4:decide ((1:Int)≤(us.length:Int))=true:=decide_eq_true (by omega)
      have e5:decide ((0:Int)≤(us.length:Int))=true:=decide_eq_true (by omega)
      (try rw [decide_eq_false h0] at RS);(try rw [decide_eq_true h12] at RS);(try rw [decide_eq_true (show 0 < us.length by omega)] at RS)
      go_wp2_with fail
      go_ret
      exact ⟨ret_b (by rw [RS.out];rfl),HTr.out.low⟩
     ·have e0:((us.length:Int) == 0)=false:=by rw [beq_eq_false_iff_ne];omega
      have e3:decide ((us.length:Int)≤12)=false:=decide_eq_false (by omega)
      have e4:decide ((1:Int)≤(us.length:Int))=true:=decide_eq_true (by omega)
      have e5:decide ((0:Int)≤(us.length:Int))=true:=decide_eq_true (by omega)
      (try rw [decide_eq_false h0] at RS);(try rw [decide_eq_false h12] at RS);(try rw [decide_eq_true (show 0 < us.length by omega)] at RS)
      go_wp2_with fail
      go_ret
      exact ⟨ret_b (by rw [RS.out];rfl),HTr.out.low⟩
  | true =>
   simp only [Bool.not_true] at HNe
   go_wp2_with fail
   refine wp_region_held_drew (S:=(fun W => ∀ o,W.cell? ⟨w.heap.size,o,none⟩=(#[.int .i64 5,.string x1,.string x2,.string x3,.string x4,.slice wo us.length wc]:Array Value)[o]?)) (by kernel_rfl) HT.out.drew.a.1 (fun hHeld=>?_)
   have HT:=HT.out.drew
   obtain ⟨wk,hwk⟩:∃ W,W=wr.drew:=⟨_,rfl⟩
   rw [← hwk] at HT hHeld ⊢
   clear hwk
   (refine hyes 0 ?_);(refine hyes 1 ?_);(refine hyes 3 ?_);(refine hyes 4 ?_);(refine hyes 5 ?_);(refine hyes 6 ?_);(try simp only [Act.put,List.setIfInBounds_toArray,List.set])
   (refine held_call 2 rfl (by kernel_rfl) (fun K hK=>?_);go_simp)
   go_at_call 170;refine (SE.out _).mono ?_;rintro e wz2 ⟨rfl,rfl⟩
   (refine hK.out _ _ ((HT.a.1)) (fun hHeld=>?_);clear hK K;(try simp only [Act.put,List.setIfInBounds_toArray,List.set]))
   (refine hyes 7 ?_);(refine hyes 8 ?_);(try simp only [Act.put,List.setIfInBounds_toArray,List.set])
   (refine hno 9 ?_);(try simp only [Act.put,List.setIfInBounds_toArray,List.set])
   (refine hno 10 ?_);(try simp only [Act.put,List.setIfInBounds_toArray,List.set])
   (refine hno 11 ?_);(try simp only [Act.put,List.setIfInBounds_toArray,List.set])
   (refine hno 12 ?_);(try simp only [Act.put,List.setIfInBounds_toArray,List.set])
   (refine hno 13 ?_);(try simp only [Act.put,List.setIfInBounds_toArray,List.set])
   (refine hno 14 ?_);(try simp only [Act.put,List.setIfInBounds_toArray,List.set])
   (refine hno 15 ?_);(try simp only [Act.put,List.setIfInBounds_toArray,List.set])
   (refine hno 16 ?_);(try simp only [Act.put,List.setIfInBounds_toArray,List.set])
   (refine hno 17 ?_);(try simp only [Act.put,List.setIfInBounds_toArray,List.set])
   (refine hyes 18 ?_);(try simp only [Act.put,List.setIfInBounds_toArray,List.set])
   refine wpAnyH_done (by kernel_rfl) ?_ _
   have HTr:=Lib.hid HT
   clear HT
   go_wp2_with fail
   go_ret
   exact ⟨ret_b (by rw [RS.out,RBN.out (by first | rfl | trivial)];rfl),HTr.out.low⟩
 ·have RS:Hid (res=(isRole ⟨x3,x4⟩ && decide (us.length=0))):=Lib.hid (RES.out.trans (by rfl))
  clear RES
  generalize isRole ⟨x3,x4⟩=rb at IB RS RBN
  have SE:=Lib.hid (fun W=>query_secondB 6 W)
  have SB:=Lib.hid (show secB 6=true from rfl)
  rw [SB.out] at SE
  have LE:=Lib.hid (fun W=>query_least 6 W)
  rw [show leastI 6 = -1 from rfl] at LE
  have HNe:=fun W=>role_neq x3 x4 emp emp W
  rw [show eqRl ⟨x3,x4⟩ ⟨emp,emp⟩=eb from HEB.out] at HNe
  cases eb with
  | false =>
   simp only [Bool.not_false] at HNe
   cases rb with
   | false =>
    go_wp2_with fail
    refine wp_region_held_drew (S:=(fun W => ∀ o,W.cell? ⟨w.heap.size,o,none⟩=(#[.int .i64 6,.string x1,.string x2,.string x3,.string x4,.slice wo us.length wc]:Array Value)[o]?)) (by kernel_rfl) HT.out.drew.a.1 (fun hHeld=>?_)
    have HT:=HT.out.drew
    obtain ⟨wk,hwk⟩:∃ W,W=wr.drew:=⟨_,rfl⟩
    rw [← hwk] at HT hHeld ⊢
    clear hwk
    (refine hyes 0 ?_);(refine hyes 1 ?_);(refine hyes 3 ?_);(refine hyes 4 ?_);(refine hyes 5 ?_);(refine hyes 6 ?_);(try simp only [Act.put,List.setIfInBounds_toArray,List.set])
    (refine held_call 2 rfl (by kernel_rfl) (fun K hK=>?_);go_simp)
    go_at_call 170;refine (SE.out _).mono ?_;rintro e wz2 ⟨rfl,rfl⟩
    (refine hK.out _ _ ((HT.a.1)) (fun hHeld=>?_);clear hK K;(try simp only [Act.put,List.setIfInBounds_toArray,List.set]))
    (refine hyes 7 ?_);(refine hyes 8 ?_);(refine hyes 9 ?_);(refine hyes 10 ?_);(try simp only [Act.put,List.setIfInBounds_toArray,List.set])
    (refine held_call 11 rfl (by kernel_rfl) (fun K hK=>?_);go_simp)
    go_at_call 170;refine (SE.out _).mono ?_;rintro e wz11 ⟨rfl,rfl⟩
    (refine hK.out _ _ ((HT.a.1)) (fun hHeld=>?_);clear hK K;(try simp only [Act.put,List.setIfInBounds_toArray,List.set]))
    (refine hyes 12 ?_);(refine hyes 13 ?_);(refine hyes 14 ?_);(try simp only [Act.put,List.setIfInBounds_toArray,List.set])
    (refine held_call 15 rfl (by kernel_rfl) (fun K hK=>?_);go_simp)
    go_at_call 108;refine (IB.out _).mono ?_;rintro e wz15 ⟨rfl,hbq⟩
    have HT:=HT.later hbq
    clear hbq
    (refine hK.out _ _ ((HT.a.1)) (fun hHeld=>?_);clear hK K;(try simp only [Act.put,List.setIfInBounds_toArray,List.set]))
    (refine hyes 16 ?_);(refine hyes 17 ?_);(refine hyes 18 ?_);(try simp only [Act.put,List.setIfInBounds_toArray,List.set])
    refine wpAnyH_done (by kernel_rfl) ?_ _
    have HTr:=Lib.hid HT
    clear HT
    go_wp2_with fail
    go_ret
    exact ⟨ret_b (by rw [RS.out];rfl),HTr.out.low⟩
   | true =>
    go_wp2_with fail
    refine wp_region_held_drew (S:=(fun W => ∀ o,W.cell? ⟨w.heap.size,o,none⟩=(#[.int .i64 6,.string x1,.string x2,.string x3,.string x4,.slice wo us.length wc]:Array Value)[o]?)) (by kernel_rfl) HT.out.drew.a.1 (fun hHeld=>?_)
    have HT:=HT.out.drew
    obtain ⟨wk,hwk⟩:∃ W,W=wr.drew:=⟨_,rfl⟩
    rw [← hwk] at HT hHeld ⊢
    clear hwk
    (refine hyes 0 ?_);(refine hyes 1 ?_);(refine hyes 3 ?_);(refine hyes 4 ?_);(refine hyes 5 ?_);(refine hyes 6 ?_);(try simp only [Act.put,List.setIfInBounds_toArray,List.set])
    (refine held_call 2 rfl (by kernel_rfl) (fun K hK=>?_);go_simp)
    go_at_call 170;refine (SE.out _).mono ?_;rintro e wz2 ⟨rfl,rfl⟩
    (refine hK.out _ _ ((HT.a.1)) (fun hHeld=>?_);clear hK K;(try simp only [Act.put,List.setIfInBounds_toArray,List.set]))
    (refine hyes 7 ?_);(refine hyes 8 ?_);(refine hyes 9 ?_);(refine hyes 10 ?_);(try simp only [Act.put,List.setIfInBounds_toArray,List.set])
    (refine held_call 11 rfl (by kernel_rfl) (fun K hK=>?_);go_simp)
    go_at_call 170;refine (SE.out _).mono ?_;rintro e wz11 ⟨rfl,rfl⟩
    (refine hK.out _ _ ((HT.a.1)) (fun hHeld=>?_);clear hK K;(try simp only [Act.put,List.setIfInBounds_toArray,List.set]))
    (refine hyes 12 ?_);(refine hyes 13 ?_);(refine hyes 14 ?_);(try simp only [Act.put,List.setIfInBounds_toArray,List.set])
    (refine held_call 15 rfl (by kernel_rfl) (fun K hK=>?_);go_simp)
    go_at_call 108;refine (IB.out _).mono ?_;rintro e wz15 ⟨rfl,hbq⟩
    have HT:=HT.later hbq
    clear hbq
    (refine hK.out _ _ ((HT.a.1)) (fun hHeld=>?_);clear hK K;(try simp only [Act.put,List.setIfInBounds_toArray,List.set]))
    (refine hyes 16 ?_);(refine hyes 17 ?_);(refine hyes 18 ?_);(try simp only [Act.put,List.setIfInBounds_toArray,List.set])
    refine wpAnyH_done (by kernel_rfl) ?_ _
    have HTr:=Lib.hid HT
    clear HT
    obtain ⟨ca,fa,za⟩:=HTr.out.a
    go_wp2_with fail
    refine (LE.out _).mono ?_
    rintro e wl ⟨rfl,rfl⟩
    by_cases h0:us.length=0
    ·have e0:((us.length:Int) == 0)=true:=by rw [beq_iff_eq];omega
     have e3:decide ((us.length:Int)≤12)=true:=decide_eq_true (by omega)
     have e4:decide ((1:Int)≤(us.length:Int))=false:=decide_eq_false (by omega)
     have e5:decide ((0:Int)≤(us.length:Int))=true:=decide_eq_true (by omega)
     rw [h0] at RS
     go_wp2_with fail
     go_ret
     exact ⟨ret_b (by rw [RS.out];rfl),HTr.out.low⟩
    ·by_cases h12:us.length≤12
     ·have e0:((us.length:Int) == 0)=false:=by rw [beq_eq_false_iff_ne];omega
      have e3:decide ((us.length:Int)≤12)=true:=decide_eq_true (by omega)
      have e4:decide ((1:Int)≤(us.length:Int))=true:=decide_eq_true (by omega)
      have e5:decide ((0:Int)≤(us.length:Int))=true:=decide_eq_true (by omega)
      (try rw [decide_eq_false h0] at RS);(try rw [decide_eq_true h12] at RS);(try rw [decide_eq_true (show 0 < us.length by omega)] at RS)
      go_wp2_with fail
      go_ret
      exact ⟨ret_b (by rw [RS.out];rfl),HTr.out.low⟩
     ·have e0:((us.length:Int) == 0)=false:=by rw [beq_eq_false_iff_ne];omega
      have e3:decide ((us.length:Int)≤12)=false:=decide_eq_false (by omega)
      have e4:decide ((1:Int)≤(us.length:Int))=true:=decide_eq_true (by omega)
      have e5:decide ((0:Int)≤(us.length:Int))=true:=decide_eq_true (by omega)
      (try rw [decide_eq_false h0] at RS);(try rw [decide_eq_false h12] at RS);(try rw [decide_eq_true (show 0 < us.length by omega)] at RS)
      go_wp2_with fail
      go_ret
      exact ⟨ret_b (by rw [RS.out];rfl),HTr.out.low⟩
  | true =>
   simp only [Bool.not_true] at HNe
   go_wp2_with fail
   refine wp_region_held_drew (S:=(fun W => ∀ o,W.cell? ⟨w.heap.size,o,none⟩=(#[.int .i64 6,.string x1,.string x2,.string x3,.string x4,.slice wo us.length wc]:Array Value)[o]?)) (by kernel_rfl) HT.out.drew.a.1 (fun hHeld=>?_)
   have HT:=HT.out.drew
   obtain ⟨wk,hwk⟩:∃ W,W=wr.drew:=⟨_,rfl⟩
   rw [← hwk] at HT hHeld ⊢
   clear hwk
   (refine hyes 0 ?_);(refine hyes 1 ?_);(refine hyes 3 ?_);(refine hyes 4 ?_);(refine hyes 5 ?_);(refine hyes 6 ?_);(try simp only [Act.put,List.setIfInBounds_toArray,List.set])
   (refine held_call 2 rfl (by kernel_rfl) (fun K hK=>?_);go_simp)
   go_at_call 170;refine (SE.out _).mono ?_;rintro e wz2 ⟨rfl,rfl⟩
   (refine hK.out _ _ ((HT.a.1)) (fun hHeld=>?_);clear hK K;(try simp only [Act.put,List.setIfInBounds_toArray,List.set]))
   (refine hyes 7 ?_);(refine hyes 8 ?_);(try simp only [Act.put,List.setIfInBounds_toArray,List.set])
   (refine hno 9 ?_);(try simp only [Act.put,List.setIfInBounds_toArray,List.set])
   (refine hno 10 ?_);(try simp only [Act.put,List.setIfInBounds_toArray,List.set])
   (refine hno 11 ?_);(try simp only [Act.put,List.setIfInBounds_toArray,List.set])
   (refine hno 12 ?_);(try simp only [Act.put,List.setIfInBounds_toArray,List.set])
   (refine hno 13 ?_);(try simp only [Act.put,List.setIfInBounds_toArray,List.set])
   (refine hno 14 ?_);(try simp only [Act.put,List.setIfInBounds_toArray,List.set])
   (refine hno 15 ?_);(try simp only [Act.put,List.setIfInBounds_toArray,List.set])
   (refine hno 16 ?_);(try simp only [Act.put,List.setIfInBounds_toArray,List.set])
   (refine hno 17 ?_);(try simp only [Act.put,List.setIfInBounds_toArray,List.set])
   (refine hyes 18 ?_);(try simp only [Act.put,List.setIfInBounds_toArray,List.set])
   refine wpAnyH_done (by kernel_rfl) ?_ _
   have HTr:=Lib.hid HT
   clear HT
   go_wp2_with fail
   go_ret
   exact ⟨ret_b (by rw [RS.out,RBN.out (by first | rfl | trivial)];rfl),HTr.out.low⟩
end
end Go.Proofs.YtomhekohcadijaaGreatDoor
