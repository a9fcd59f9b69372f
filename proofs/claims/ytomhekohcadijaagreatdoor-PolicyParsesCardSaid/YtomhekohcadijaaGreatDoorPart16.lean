/- Parts: PolPrintW FaultEq Law05L RowsTwo RefUniv QRef RefNamesO -/
import Derived.Test.YtomhekohcadijaaGreatDoorPart15
import Derived.Test.YtomhekohcadijaaGreatDoorPart2
import Derived.Test.YtomhekohcadijaaGreatDoorPart11
import Derived.Test.YtomhekohcadijaaGreatDoorPart6
import Derived.Test.YtomhekohcadijaaGreatDoorPart8
import Derived.Test.YtomhekohcadijaaGreatDoorPart12
import Derived.Test.YtomhekohcadijaaGreatDoorPart13
namespace Go.Proofs.YtomhekohcadijaaGreatDoor
section
open Go.RowKit Go.Shelf

theorem rightD_iff {p:Pd} {zs:List (Qd × Value)} {F:Qv→List ByteArray} (hz:zs.map (·.1)=p.q) (hF:∀ z∈zs,F (qz z)=z.1.us) (hl:p.l.length≤80) (hg:p.g.length≤40) (hh:p.h.length≤40):RightP p.l p.g p.h (zs.map qz) F↔RightD p:=by
 have hq:(∀ q∈zs.map qz,rightQ q (F q)=true)↔∀ x∈p.q,GoodQ x:=by
  constructor
  ·intro h x hx
   rw [← hz] at hx
   obtain ⟨z,hz,rfl⟩:=List.mem_map.1 hx
   have h1:=h (qz z) (List.mem_map_of_mem hz)
   rw [hF z hz] at h1
   exact right_iff.1 h1
  ·intro h q hq
   obtain ⟨z,hz',rfl⟩:=List.mem_map.1 hq
   rw [hF z hz']
   exact right_iff.2 (h z.1 (by rw [← hz];exact List.mem_map_of_mem hz'))
 unfold RightP
 rw [hq,← fitsD_of p zs F hz hF hl hg hh]
 constructor
 ·rintro ⟨h1,h2,h3,h4,h5,h6,h7⟩
  exact ⟨⟨h1,fun x hx=>h2 x (List.mem_append.2 (.inl hx)),fun x hx=>h2 x (List.mem_append.2 (.inr hx)),h3⟩,h4,h5,h6,h7⟩
 ·rintro ⟨⟨h1,h2,h2',h3⟩,h4,h5,h6,h7⟩
  exact ⟨h1,fun x hx=>(List.mem_append.1 hx).elim (h2 x) (h2' x),h3,h4,h5,h6,h7⟩
def PrintR (p:Pd) (e:Ending):Prop:=∃ t,e=.returned (.string t)∧(RightD p→t=textP p)∧(¬ RightD p→t=emp)
theorem joinN_app (a b:List ByteArray):joinN (a++b)=joinN a++joinN b:=by unfold joinN;rw [List.flatMap_append]
theorem joinN_one (x:ByteArray):joinN [x]=bl x++[10]:=by simp [joinN]
theorem take_snocP {α β:Type} (f:α→β) (l:List α) {k:Nat} (h:k < l.length):(l.map f).take (k+1)=(l.map f).take k++[f l[k]]:=by
 rw [List.take_succ_eq_append_getElem (by simpa using h)];simp
theorem printS_size {s:St} (h:rightS s=true):(printS s).size≤100:=by
 obtain ⟨⟨l1,l2⟩,l3,⟨l4,l5⟩,⟨l6,l7⟩,l8⟩:=rightS_le h
 unfold printS
 rw [if_pos h]
 have e1:(⟨#[46]⟩:ByteArray).size=1:=rfl
 have e4:(⟨#[32,60,45,32]⟩:ByteArray).size=4:=rfl
 have e3:(⟨#[32,38,32]⟩:ByteArray).size=3:=rfl
 have:∀ x:ByteArray,x.size≤50→(roleT s.h++⟨#[32,60,45,32]⟩++x).size≤100:=fun x hx=>by
  simp only [roleT,ByteArray.size_append,e1,e4];omega
 refine this _ ?_
 (repeat' split) <;> (try simp only [roleT,ByteArray.size_append,e1,e3]) <;> omega

theorem growT_bl (r:Rl):bl (growT r)=bl wGrow++32 :: bl (roleT r):=by simp [growT,joinB,Lib.join,bl]
theorem shrinkT_bl (r:Rl):bl (shrinkT r)=bl wShrink++32 :: bl (roleT r):=by simp [shrinkT,joinB,Lib.join,bl]
theorem growT_size {r:Rl} (h:isRole r=true):(growT r).size≤100:=by
 have h1:=congrArg List.length (growT_bl r)
 have h2:=role_size h
 rw [List.length_append,List.length_cons,bl_len,bl_len,bl_len] at h1
 have:wGrow.size=4:=rfl
 omega
theorem shrinkT_size {r:Rl} (h:isRole r=true):(shrinkT r).size≤100:=by
 have h1:=congrArg List.length (shrinkT_bl r)
 have h2:=role_size h
 rw [List.length_append,List.length_cons,bl_len,bl_len,bl_len] at h1
 have:wShrink.size=6:=rfl
 omega
set_option maxRecDepth 100000 in
set_option maxHeartbeats 8000000 in
theorem policy_Print (v0 v1 v2 v3:Value) (p:Pd) (zs:List (Qd × Value)) (w:World) (hp:PolD w v0 v1 v2 v3 p zs) (hle:LeP p 4294967 40) (hl:p.l.length≤80) (hg:p.g.length≤40) (hh:p.h.length≤40) (hq:p.q.length≤100) :
  Calls Tryz.prog 66 #[pv v0 v1 v2 v3] w fun e w'=>PrintR p e∧Below w.heap.size w w':=by
 have hzl:zs.length=p.q.length:=by rw [← hp.z,List.length_map]
 have hm:∀ z∈zs,z.1∈p.q:=fun z hz=>by rw [← hp.z];exact List.mem_map_of_mem hz
 have RI:=rightD_iff (p:=p) (zs:=zs) hp.z hp.F hl hg hh
 have RT:=Lib.hid (fun W (hb:Below w.heap.size w W)=>policy_RightL v0 v1 v2 v3 p.l p.g p.h (zs.map qz) W ((hp.at (hle.mono (by decide) (Nat.le_refl _))).below hb) hl hg hh (by rw [hp.qlen];exact hq) (fun x hx=>hle.l x hx) (fun x hx=>(List.mem_append.1 hx).elim (hle.g x) (hle.h x)) (fun q hq=>by obtain ⟨z,hz,rfl⟩:=List.mem_map.1 hq;exact ⟨hle.qa _ (hm z hz),hle.qb _ (hm z hz)⟩) (FAt w) ((hp.who hle (Nat.le_refl _)).below hb) (fun q hq s hs=>by
  obtain ⟨z,hz,rfl⟩:=List.mem_map.1 hq
  rw [hp.F z hz] at hs
  have:=hle.qs _ (hm z hz) s hs
  omega))
 have HP:=Lib.hid hp
 have HM:=Lib.hid hm
 obtain ⟨a0,c0,rfl⟩:=hp.rs.form
 obtain ⟨a1,c1,rfl⟩:=hp.rg.form
 obtain ⟨a2,c2,rfl⟩:=hp.rh.form
 obtain ⟨a3,c3,rfl⟩:=hp.rq.form
 have HT:=Lib.hid (show OneAt w #[.slice a0 p.l.length c0,.slice a1 p.g.length c1,.slice a2 p.h.length c2,.slice a3 zs.length c3] (w.alloc (.cells #[.slice a0 p.l.length c0,.slice a1 p.g.length c1,.slice a2 p.h.length c2,.slice a3 zs.length c3] 26)) from ⟨Blk.new w _ _,(Below.refl _ _).alloc (Nat.le_refl _) _⟩)
 have HQ:=Lib.hid hzl
 have hz100:zs.length≤100:=by omega
 clear hp hle hzl hm
 go_enter Tryz.func66,Tryz.ntmps66
 go_wp2_with fail
 refine (RT.out _ HT.out.low).mono ?_
 rintro e w1 ⟨⟨b,rfl,hb⟩,hb1⟩
 have HT:=Lib.hid (HT.out.later hb1)
 have HRI:=Lib.hid (hb.trans RI)
 clear hb1 hb RT RI
 cases b with
 | false =>
  go_wp2_with fail
  go_ret
  exact ⟨⟨emp,rfl,fun h=>absurd (HRI.out.2 h) (by decide),fun _=>rfl⟩,HT.out.low⟩
 | true =>
  have HR:=Lib.hid (HRI.out.1 rfl)
  clear HRI
  have HTX:=Lib.hid (show textP p=⟨(joinN (p.l.map printS++p.g.map growT++p.h.map shrinkT++p.q.map textQ)).toArray⟩ from rfl)
  have HS0:=Lib.hid (sb_new w1 w1.heap.size (Nat.le_refl _))
  have HB0:=Lib.hid ((Below.refl w1.heap.size w1).alloc (Nat.le_refl _) (.cells #[.pointer none,.slice none 0 0] 113))
  obtain ⟨ca,fa,za⟩:=HT.out.a
  have hR0:w.heap.size < w1.heap.size:=za
  go_wp2_with fail
  go_loopw [20] (fun i wr => ∃ (k:Nat) (acc:List UInt8),k≤p.l.length∧i=.int .i64 k∧Hid (acc=joinN ([]++(p.l.map printS).take k))∧acc.length≤0+k * 300∧Hid (SbAt w1.heap.size w1.heap.size acc wr)∧Hid (Below w1.heap.size w1 wr)∧w1.heap.size≤wr.heap.size) (fun i _=>p.l.length - (intOf i).toNat)
  case atStart=>exact ⟨0,[],by omega,rfl,Lib.hid rfl,by simp,HS0,HB0,HB0.out.size⟩
  case round =>
   skip
   obtain ⟨k,acc,hk,rfl,HA,hacc,HS,HB,hsz⟩:=hrel
   have HW:=Lib.hid (HT.out.low.trans (HB.out.mono HT.out.low.size))
   obtain ⟨ca,fa,za⟩:Blk wr w.heap.size #[.slice a0 p.l.length c0,.slice a1 p.g.length c1,.slice a2 p.h.length c2,.slice a3 zs.length c3]:=⟨fun o=>(HB.out.cell (p:=⟨w.heap.size,o,none⟩) hR0).trans (HT.out.a.1 o),fun o=>(HB.out.frozen (p:=⟨w.heap.size,o,none⟩) hR0).trans (HT.out.a.2.1 o),Nat.lt_of_lt_of_le hR0 hsz⟩
   by_cases hlt:k < p.l.length
   ·obtain ⟨b3,o3,e3,he3,hc3,hm3,hb3,hx3⟩:=(HP.out.rs.below HW.out).pos (by omega)
    simp only [Value.slice.injEq,true_and] at he3
    obtain ⟨rfl,rfl⟩:=he3
    obtain ⟨p0,p1,p2,p3,p4,p5,p6,p7,p8⟩:=st_cell (w:=wr) hx3 k hlt
    have hr:=HR.out.ok.l _ (List.getElem_mem hlt)
    have SP:=Lib.hid (fun W=>syn_Print p.l[k] W (st_le_mono (rightS_le hr) (by decide)))
    have hps:=printS_size hr
    have HN:=Lib.hid (show acc++(bl (printS p.l[k])++[10])=joinN ([]++(p.l.map printS).take (k+1)) by
     rw [HA.out,take_snocP _ _ hlt]
     simp only [joinN_app,joinN_one,List.nil_append])
    have HLEN:=Lib.hid (show (bl (printS p.l[k])).length≤100 by rw [bl_len];exact hps)
    clear hx3 HA
    have PT:=Lib.hid (fun v W (h:SlA W 1 v [printS p.l[k]].length (strs [printS p.l[k]])) (hs:SbAt w1.heap.size w1.heap.size acc W) (hB:w1.heap.size≤W.heap.size)=>policy_Print1 v [printS p.l[k]] w1.heap.size w1.heap.size acc W h (by simp) (by rw [joinB_one];omega) hs (by omega) hB)
    simp only [joinB_one] at PT
    generalize printS p.l[k]=x at *
    generalize p.l[k]=st at *
    obtain ⟨k0,⟨h1,h2⟩,who,⟨A1,A2⟩,⟨B1,B2⟩,via⟩:=st
    go_wp2_with fail
    refine (SP.out _).mono ?_
    rintro e w4 ⟨rfl,hb4⟩
    have hba:Below wr.heap.size wr (wr.alloc (.cells #[.int .i64 k0,.string h1,.string h2,.string who,.string A1,.string A2,.string B1,.string B2,.string via] 80)):=(Below.refl _ _).alloc (Nat.le_refl _) _
    have hb40:=hba.trans (hb4.mono hba.size)
    have HS4:=Lib.hid (sb_below HS.out hb40)
    have HB4:=Lib.hid (HB.out.trans (hb40.mono HB.out.size))
    have hsz4:=HB4.out.size
    clear hb4 hba hb40 SP
    go_wp2_with fail
    have hbq:Below w4.heap.size w4 (w4.alloc (.cells #[.string x] 9)):=(Below.refl _ _).alloc (Nat.le_refl _) _
    have HN1:=Lib.hid (show Sl (w4.alloc (.cells #[.string x] 9)) 1 (.slice (some ⟨w4.heap.size,0,none⟩) 1 1) 1 (strs [x]) from Sl.new w4 [.string x] 9 1 1 w4.heap.size rfl rfl (by simp [maxLen]))
    have hsz5:w1.heap.size≤(w4.alloc (.cells #[.string x] 9)).heap.size:=by simp;omega
    refine (PT.out _ _ HN1.out.a (sb_below HS4.out hbq) hsz5).mono ?_
    rintro e w5 ⟨rfl,hs5,hb5⟩
    have HS5:=Lib.hid hs5
    have hb5':=HB4.out.trans (hbq.mono HB4.out.size)
    have HB5:=Lib.hid (hb5'.trans hb5)
    have hsz5:=HB5.out.size
    clear hs5 hb5 hb5' hbq PT
    go_wp2
    exact ⟨⟨k+1,acc++(bl x++[10]),by omega,by go_num,HN,by have:=HLEN.out;simp;omega,HS5,HB5,hsz5⟩,by simp [intOf];omega⟩
   ·have HX0:=Lib.hid (show acc=joinN (p.l.map printS) by
     have h:=HA.out
     rw [List.take_of_length_le (by simp;omega)] at h
     exact h)
    have hk0:k=p.l.length:=by omega
    subst hk0
    clear hlt
    obtain ⟨wr0,rfl⟩:∃ X,X=wr:=⟨_,rfl⟩
    go_wp2_with fail
    go_loopw [33] (fun i wr => ∃ (k:Nat) (acc:List UInt8),k≤p.g.length∧i=.int .i64 k∧Hid (acc=joinN (p.l.map printS++(p.g.map growT).take k))∧acc.length≤30000+k * 300∧Hid (SbAt w1.heap.size w1.heap.size acc wr)∧Hid (Below w1.heap.size w1 wr)∧w1.heap.size≤wr.heap.size) (fun i _=>p.g.length - (intOf i).toNat)
    case atStart=>exact ⟨0,acc,by omega,rfl,Lib.hid (by rw [HX0.out];simp),by omega,HS,HB,hsz⟩
    case round =>
     skip
     obtain ⟨k,acc,hk,rfl,HA,hacc,HS,HB,hsz⟩:=hrel
     have HW:=Lib.hid (HT.out.low.trans (HB.out.mono HT.out.low.size))
     obtain ⟨ca,fa,za⟩:Blk wr w.heap.size #[.slice a0 p.l.length c0,.slice a1 p.g.length c1,.slice a2 p.h.length c2,.slice a3 zs.length c3]:=⟨fun o=>(HB.out.cell (p:=⟨w.heap.size,o,none⟩) hR0).trans (HT.out.a.1 o),fun o=>(HB.out.frozen (p:=⟨w.heap.size,o,none⟩) hR0).trans (HT.out.a.2.1 o),Nat.lt_of_lt_of_le hR0 hsz⟩
     by_cases hlt:k < p.g.length
     ·obtain ⟨b3,o3,e3,he3,hc3,hm3,hb3,hx3⟩:=(HP.out.rg.below HW.out).pos (by omega)
      simp only [Value.slice.injEq,true_and] at he3
      obtain ⟨rfl,rfl⟩:=he3
      obtain ⟨p0,p1⟩:=rl_cell (w:=wr) hx3 k hlt
      have hr:=HR.out.ok.g _ (List.getElem_mem hlt)
      have SP:=Lib.hid (fun W=>syn_PrintRole p.g[k] W (rl_le_mono (isRole_le hr) (by decide)))
      have hps:=growT_size hr
      have HN:=Lib.hid (show acc++(bl (growT p.g[k])++[10])=joinN (p.l.map printS++(p.g.map growT).take (k+1)) by
       rw [HA.out,take_snocP _ _ hlt]
       simp only [joinN_app,joinN_one,List.append_assoc])
      have HLEN:=Lib.hid (show (bl (growT p.g[k])).length≤100 by rw [bl_len];exact hps)
      clear hx3 HA
      have PT:=Lib.hid (fun v W (h:SlA W 1 v [wGrow,roleT p.g[k]].length (strs [wGrow,roleT p.g[k]])) (hs:SbAt w1.heap.size w1.heap.size acc W) (hB:w1.heap.size≤W.heap.size)=>policy_Print1 v [wGrow,roleT p.g[k]] w1.heap.size w1.heap.size acc W h (by simp) (by show (growT p.g[k]).size≤1000000;omega) hs (by omega) hB)
      have hjt:joinB [wGrow,roleT p.g[k]] ⟨#[32]⟩=growT p.g[k]:=rfl
      simp only [hjt] at PT
      clear hjt
      generalize growT p.g[k]=y at *
      generalize roleT p.g[k]=x at *
      generalize p.g[k]=st at *
      obtain ⟨h1,h2⟩:=st
      go_wp2_with fail
      refine (SP.out _).mono ?_
      rintro e w4 ⟨rfl,hb4⟩
      have hba:Below wr.heap.size wr (wr.alloc (.cells #[.string h1,.string h2] 78)):=(Below.refl _ _).alloc (Nat.le_refl _) _
      have hb40:=hba.trans (hb4.mono hba.size)
      have HS4:=Lib.hid (sb_below HS.out hb40)
      have HB4:=Lib.hid (HB.out.trans (hb40.mono HB.out.size))
      have hsz4:=HB4.out.size
      clear hb4 hba hb40 SP
      go_wp2_with fail
      have hbq:Below w4.heap.size w4 (w4.alloc (.cells #[.string wGrow,.string x] 9)):=(Below.refl _ _).alloc (Nat.le_refl _) _
      have HN1:=Lib.hid (show Sl (w4.alloc (.cells #[.string wGrow,.string x] 9)) 1 (.slice (some ⟨w4.heap.size,0,none⟩) 2 2) 2 (strs [wGrow,x]) from Sl.new w4 [.string wGrow,.string x] 9 1 2 w4.heap.size rfl rfl (by simp [maxLen]))
      have hsz5:w1.heap.size≤(w4.alloc (.cells #[.string wGrow,.string x] 9)).heap.size:=by simp;omega
      refine (PT.out _ _ HN1.out.a (sb_below HS4.out hbq) hsz5).mono ?_
      rintro e w5 ⟨rfl,hs5,hb5⟩
      have HS5:=Lib.hid hs5
      have hb5':=HB4.out.trans (hbq.mono HB4.out.size)
      have HB5:=Lib.hid (hb5'.trans hb5)
      have hsz5:=HB5.out.size
      clear hs5 hb5 hb5' hbq PT
      go_wp2
      exact ⟨⟨k+1,acc++(bl y++[10]),by omega,by go_num,HN,by have:=HLEN.out;simp;omega,HS5,HB5,hsz5⟩,by simp [intOf];omega⟩
     ·have HX1:=Lib.hid (show acc=joinN (p.l.map printS++p.g.map growT) by
       have h:=HA.out
       rw [List.take_of_length_le (by simp;omega)] at h
       exact h)
      have hk0:k=p.g.length:=by omega
      subst hk0
      clear hlt
      obtain ⟨wr1,rfl⟩:∃ X,X=wr:=⟨_,rfl⟩
      go_wp2_with fail
      go_loopw [46] (fun i wr => ∃ (k:Nat) (acc:List UInt8),k≤p.h.length∧i=.int .i64 k∧Hid (acc=joinN (p.l.map printS++p.g.map growT++(p.h.map shrinkT).take k))∧acc.length≤60000+k * 300∧Hid (SbAt w1.heap.size w1.heap.size acc wr)∧Hid (Below w1.heap.size w1 wr)∧w1.heap.size≤wr.heap.size) (fun i _=>p.h.length - (intOf i).toNat)
      case atStart=>exact ⟨0,acc,by omega,rfl,Lib.hid (by rw [HX1.out];simp),by omega,HS,HB,hsz⟩
      case round =>
       skip
       obtain ⟨k,acc,hk,rfl,HA,hacc,HS,HB,hsz⟩:=hrel
       have HW:=Lib.hid (HT.out.low.trans (HB.out.mono HT.out.low.size))
       obtain ⟨ca,fa,za⟩:Blk wr w.heap.size #[.slice a0 p.l.length c0,.slice a1 p.g.length c1,.slice a2 p.h.length c2,.slice a3 zs.length c3]:=⟨fun o=>(HB.out.cell (p:=⟨w.heap.size,o,none⟩) hR0).trans (HT.out.a.1 o),fun o=>(HB.out.frozen (p:=⟨w.heap.size,o,none⟩) hR0).trans (HT.out.a.2.1 o),Nat.lt_of_lt_of_le hR0 hsz⟩
       by_cases hlt:k < p.h.length
       ·obtain ⟨b3,o3,e3,he3,hc3,hm3,hb3,hx3⟩:=(HP.out.rh.below HW.out).pos (by omega)
        simp only [Value.slice.injEq,true_and] at he3
        obtain ⟨rfl,rfl⟩:=he3
        obtain ⟨p0,p1⟩:=rl_cell (w:=wr) hx3 k hlt
        have hr:=HR.out.ok.h _ (List.getElem_mem hlt)
        have SP:=Lib.hid (fun W=>syn_PrintRole p.h[k] W (rl_le_mono (isRole_le hr) (by decide)))
        have hps:=shrinkT_size hr
        have HN:=Lib.hid (show acc++(bl (shrinkT p.h[k])++[10])=joinN (p.l.map printS++p.g.map growT++(p.h.map shrinkT).take (k+1)) by
         rw [HA.out,take_snocP _ _ hlt]
         simp only [joinN_app,joinN_one,List.append_assoc])
        have HLEN:=Lib.hid (show (bl (shrinkT p.h[k])).length≤100 by rw [bl_len];exact hps)
        clear hx3 HA
        have PT:=Lib.hid (fun v W (h:SlA W 1 v [wShrink,roleT p.h[k]].length (strs [wShrink,roleT p.h[k]])) (hs:SbAt w1.heap.size w1.heap.size acc W) (hB:w1.heap.size≤W.heap.size)=>policy_Print1 v [wShrink,roleT p.h[k]] w1.heap.size w1.heap.size acc W h (by simp) (by show (shrinkT p.h[k]).size≤1000000;omega) hs (by omega) hB)
        have hjt:joinB [wShrink,roleT p.h[k]] ⟨#[32]⟩=shrinkT p.h[k]:=rfl
        simp only [hjt] at PT
        clear hjt
        generalize shrinkT p.h[k]=y at *
        generalize roleT p.h[k]=x at *
        generalize p.h[k]=st at *
        obtain ⟨h1,h2⟩:=st
        go_wp2_with fail
        refine (SP.out _).mono ?_
        rintro e w4 ⟨rfl,hb4⟩
        have hba:Below wr.heap.size wr (wr.alloc (.cells #[.string h1,.string h2] 78)):=(Below.refl _ _).alloc (Nat.le_refl _) _
        have hb40:=hba.trans (hb4.mono hba.size)
        have HS4:=Lib.hid (sb_below HS.out hb40)
        have HB4:=Lib.hid (HB.out.trans (hb40.mono HB.out.size))
        have hsz4:=HB4.out.size
        clear hb4 hba hb40 SP
        go_wp2_with fail
        have hbq:Below w4.heap.size w4 (w4.alloc (.cells #[.string wShrink,.string x] 9)):=(Below.refl _ _).alloc (Nat.le_refl _) _
        have HN1:=Lib.hid (show Sl (w4.alloc (.cells #[.string wShrink,.string x] 9)) 1 (.slice (some ⟨w4.heap.size,0,none⟩) 2 2) 2 (strs [wShrink,x]) from Sl.new w4 [.string wShrink,.string x] 9 1 2 w4.heap.size rfl rfl (by simp [maxLen]))
        have hsz5:w1.heap.size≤(w4.alloc (.cells #[.string wShrink,.string x] 9)).heap.size:=by simp;omega
        refine (PT.out _ _ HN1.out.a (sb_below HS4.out hbq) hsz5).mono ?_
        rintro e w5 ⟨rfl,hs5,hb5⟩
        have HS5:=Lib.hid hs5
        have hb5':=HB4.out.trans (hbq.mono HB4.out.size)
        have HB5:=Lib.hid (hb5'.trans hb5)
        have hsz5:=HB5.out.size
        clear hs5 hb5 hb5' hbq PT
        go_wp2
        exact ⟨⟨k+1,acc++(bl y++[10]),by omega,by go_num,HN,by have:=HLEN.out;simp;omega,HS5,HB5,hsz5⟩,by simp [intOf];omega⟩
       ·have HX2:=Lib.hid (show acc=joinN (p.l.map printS++p.g.map growT++p.h.map shrinkT) by
         have h:=HA.out
         rw [List.take_of_length_le (by simp;omega)] at h
         exact h)
        have hk0:k=p.h.length:=by omega
        subst hk0
        clear hlt
        obtain ⟨wr2,rfl⟩:∃ X,X=wr:=⟨_,rfl⟩
        go_wp2_with fail
        go_loopw [59] (fun i wr => ∃ (k:Nat) (acc:List UInt8),k≤zs.length∧i=.int .i64 k∧Hid (acc=joinN (p.l.map printS++p.g.map growT++p.h.map shrinkT++(p.q.map textQ).take k))∧acc.length≤90000+k * 300∧Hid (SbAt w1.heap.size w1.heap.size acc wr)∧Hid (Below w1.heap.size w1 wr)∧w1.heap.size≤wr.heap.size) (fun i _=>zs.length - (intOf i).toNat)
        case atStart=>exact ⟨0,acc,by omega,rfl,Lib.hid (by rw [HX2.out];simp),by omega,HS,HB,hsz⟩
        case round =>
         skip
         obtain ⟨k,acc,hk,rfl,HA,hacc,HS,HB,hsz⟩:=hrel
         have HW:=Lib.hid (HT.out.low.trans (HB.out.mono HT.out.low.size))
         obtain ⟨ca,fa,za⟩:Blk wr w.heap.size #[.slice a0 p.l.length c0,.slice a1 p.g.length c1,.slice a2 p.h.length c2,.slice a3 zs.length c3]:=⟨fun o=>(HB.out.cell (p:=⟨w.heap.size,o,none⟩) hR0).trans (HT.out.a.1 o),fun o=>(HB.out.frozen (p:=⟨w.heap.size,o,none⟩) hR0).trans (HT.out.a.2.1 o),Nat.lt_of_lt_of_le hR0 hsz⟩
         by_cases hlt:k < zs.length
         ·obtain ⟨b3,o3,e3,he3,hc3,hm3,hb3,hx3⟩:=(HP.out.rq.below HW.out).pos (by omega)
          simp only [Value.slice.injEq,true_and] at he3
          obtain ⟨rfl,rfl⟩:=he3
          have hlt':k < (zs.map qz).length:=by simpa using hlt
          have hqe:(zs.map qz)[k]=qz zs[k]:=by simp
          obtain ⟨p0,p1,p2,p3,p4,p5⟩:=q_cell (w:=wr) (l:=zs.map qz) hx3 k hlt'
          rw [hqe] at p0 p1 p2 p3 p4 p5
          have hzm:=HM.out _ (List.getElem_mem hlt)
          have hr:=HR.out.ok.q _ hzm
          have hus:=(HP.out.below HW.out).rw _ (List.getElem_mem hlt)
          have SP:=Lib.hid (fun W (hb:Below wr.heap.size wr W)=>query_Print (qz zs[k]) zs[k].1.us W (rl_le_mono (good_a hr) (by decide)) (rl_le_mono (good_b hr) (by decide)) (hus.below hb) (fun s hs=>Nat.le_trans (good_us hr s hs) (by decide)))
          rw [show printQ (qz zs[k]) zs[k].1.us=textQ zs[k].1 from if_pos (right_iff.2 hr)] at SP
          have hps:=textQ_size _ hr
          have HN:=Lib.hid (show acc++(bl (textQ zs[k].1)++[10])=joinN (p.l.map printS++p.g.map growT++p.h.map shrinkT++(p.q.map textQ).take (k+1)) by
           rw [HA.out,show (p.q.map textQ).take (k+1)=(p.q.map textQ).take k++[textQ zs[k].1] from (by rw [← HP.out.z,List.map_map];exact take_snocP (fun z=>textQ z.1) zs hlt)]
           simp only [joinN_app,joinN_one,List.append_assoc])
          have HLEN:=Lib.hid (show (bl (textQ zs[k].1)).length≤200 by rw [bl_len];exact hps)
          clear hx3 HA
          have PT:=Lib.hid (fun v W (h:SlA W 1 v [textQ zs[k].1].length (strs [textQ zs[k].1])) (hs:SbAt w1.heap.size w1.heap.size acc W) (hB:w1.heap.size≤W.heap.size)=>policy_Print1 v [textQ zs[k].1] w1.heap.size w1.heap.size acc W h (by simp) (by rw [joinB_one];omega) hs (by omega) hB)
          simp only [joinB_one] at PT
          clear hr hzm
          generalize textQ zs[k].1=x at *
          generalize zs[k]=z at *
          obtain ⟨⟨k0,⟨x1,x2⟩,⟨x3,x4⟩,us⟩,zv⟩:=z
          dsimp only [qz] at hus p0 p1 p2 p3 p4 p5 SP
          obtain ⟨wo,wc,rfl⟩:=hus.form
          clear hus hqe
          go_wp2_with fail
          have hba:Below wr.heap.size wr (wr.alloc (.cells #[.int .i64 k0,.string x1,.string x2,.string x3,.string x4,.slice wo us.length wc] 83)):=(Below.refl _ _).alloc (Nat.le_refl _) _
          refine (SP.out _ hba).mono ?_
          rintro e w4 ⟨rfl,hb4⟩
          have hb40:=hba.trans (hb4.mono hba.size)
          have HS4:=Lib.hid (sb_below HS.out hb40)
          have HB4:=Lib.hid (HB.out.trans (hb40.mono HB.out.size))
          have hsz4:=HB4.out.size
          clear hb4 hba hb40 SP
          go_wp2_with fail
          have hbq:Below w4.heap.size w4 (w4.alloc (.cells #[.string x] 9)):=(Below.refl _ _).alloc (Nat.le_refl _) _
          have HN1:=Lib.hid (show Sl (w4.alloc (.cells #[.string x] 9)) 1 (.slice (some ⟨w4.heap.size,0,none⟩) 1 1) 1 (strs [x]) from Sl.new w4 [.string x] 9 1 1 w4.heap.size rfl rfl (by simp [maxLen]))
          have hsz5:w1.heap.size≤(w4.alloc (.cells #[.string x] 9)).heap.size:=by simp;omega
          refine (PT.out _ _ HN1.out.a (sb_below HS4.out hbq) hsz5).mono ?_
          rintro e w5 ⟨rfl,hs5,hb5⟩
          have HS5:=Lib.hid hs5
          have hb5':=HB4.out.trans (hbq.mono HB4.out.size)
          have HB5:=Lib.hid (hb5'.trans hb5)
          have hsz5:=HB5.out.size
          clear hs5 hb5 hb5' hbq PT
          go_wp2
          exact ⟨⟨k+1,acc++(bl x++[10]),by omega,by go_num,HN,by have:=HLEN.out;simp;omega,HS5,HB5,hsz5⟩,by simp [intOf];omega⟩
         ·have HX3:=Lib.hid (show acc=joinN (p.l.map printS++p.g.map growT++p.h.map shrinkT++p.q.map textQ) by
           have h:=HA.out
           rw [List.take_of_length_le (by rw [List.length_map,← HQ.out];omega)] at h
           exact h)
          have hk0:k=zs.length:=by omega
          subst hk0
          clear hlt
          obtain ⟨wr3,rfl⟩:∃ X,X=wr:=⟨_,rfl⟩
          go_wp2_with (go_at_call 84;refine (Tryz.Builder_String_any_k w1.heap.size w1.heap.size acc _ HS.out hsz).mono ?_;rintro e w9 ⟨rfl,_,hb9,_⟩)
          have HB9:=Lib.hid (HB.out.trans hb9)
          clear hb9
          go_ret
          exact ⟨⟨_,rfl,fun _=>by rw [HTX.out,HX3.out],fun h=>absurd HR.out h⟩,HT.out.low.trans (HB9.out.mono HT.out.low.size)⟩
end
section
open Go.RowKit Go.Shelf

def eqF (a b c a' b' c':Int):Bool:=decide (a=a'∧b=b'∧c=c')
set_option maxRecDepth 100000 in
set_option maxHeartbeats 1000000 in
theorem fault_equalIn (d:Nat) (a b c a' b' c':Int) (w:World):(Op.equalIn (d+2) 48 (.agg #[.int .i64 a,.int .i64 b,.int .i64 c]) (.agg #[.int .i64 a',.int .i64 b',.int .i64 c'])).run Tryz.prog w=.ok (eqF a b c a' b' c') w:=by
 have hS:Tryz.prog.underlying 48=some (.struct (Tryz.prog.fieldsOf 48)):=by kernel_rfl
 have hp:Tryz.prog.stoodInHeld 48=false:=by kernel_rfl
 rw [run_equalIn_agg w (d+1) 48 _ _ hS hp]
 simp only [Program.fieldsOf,Tryz.underlying48]
 go_simp
 by_cases h1:a=a' <;> by_cases h2:b=b' <;> by_cases h3:c=c' <;> simp [h1,h2,h3,eqF]
theorem fault_eql (a b c a' b' c':Int) (w:World):(binOp .eql 48 (.agg #[.int .i64 a,.int .i64 b,.int .i64 c]) (.agg #[.int .i64 a',.int .i64 b',.int .i64 c'])).run Tryz.prog w=.ok (.bool (eqF a b c a' b' c')) w:=by
 rw [run_eql_struct,show (10000:Nat)=9998+2 from rfl,fault_equalIn 9998]
 rfl
theorem eqF_same (a b c:Int):eqF a b c a b c=true:=decide_eq_true ⟨rfl,rfl,rfl⟩
end
section
open Go.RowKit Go.Shelf

def ex5T:ByteArray:=⟨#[103,114,111,119,32,65,46,114,10,65,46,114,32,60,45,32,66,10,65,46,114,32,60,45,32,66,32,35,32,116,119,105,99,101,10]⟩
def ex5R:Rl:=⟨⟨#[65]⟩,⟨#[114]⟩⟩
def ex5P:Pd:=⟨[⟨1,ex5R,⟨#[66]⟩,noR,noR,emp⟩],[ex5R],[],[]⟩
def ex5O:ByteArray:=⟨#[65,46,114,32,60,45,32,66,10,103,114,111,119,32,65,46,114,10]⟩
set_option maxRecDepth 100000 in
theorem ex5_parse:parseP ex5T=(ex5P,0,0,0):=by kernel_rfl
theorem ex5_fits:fitsD ex5P=true:=by kernel_rfl
theorem ex5_right:RightD ex5P:=by
 refine ⟨⟨fun x hx=>?_,fun x hx=>?_,fun x hx=>?_,fun x hx=>?_⟩,by kernel_rfl,by kernel_rfl,rfl,ex5_fits⟩
 ·obtain rfl:=List.mem_singleton.1 hx
  kernel_rfl
 ·obtain rfl:=List.mem_singleton.1 hx
  kernel_rfl
 ·exact absurd hx (by simp [ex5P])
 ·exact absurd hx (by simp [ex5P])
theorem ex5_text:textP ex5P=ex5O:=by kernel_rfl
set_option maxRecDepth 100000 in
set_option maxHeartbeats 4000000 in
theorem law5_lives (w:World) (hg:Gl w):Calls Tryz.prog 23 #[] w fun e w'=>e=.returned (.bool true)∧Below w.heap.size w w':=by
 have P:=Lib.hid (policy_Parse ex5T w hg (by decide))
 rw [ex5_parse] at P
 have hEq:=fault_eql
 have hSelf:=eqF_same
 go_enter Tryz.func23,Tryz.ntmps23
 go_wp2_with fail
 refine P.out.mono ?_
 rintro e w1 ⟨v0,v1,v2,v3,zs,rfl,hpo,hb1⟩
 have hp:=hpo.pol
 have hz:zs=[]:=List.map_eq_nil_iff.1 hp.z
 subst hz
 have PR:=Lib.hid (fun W (hb:Below w1.heap.size w1 W)=>policy_RightL v0 v1 v2 v3 ex5P.l ex5P.g ex5P.h ([].map qz) W ((hp.at ((okP_le ex5_right.ok).mono (by decide) (by decide:(12:Nat)≤40))).below hb) (by decide) (by decide) (by decide) (by decide) (fun x hx=>((okP_le ex5_right.ok).mono (by decide) (by decide:(12:Nat)≤40)).l x hx) (fun x hx=>(List.mem_append.1 hx).elim (fun h=>rl_le_mono ((okP_le ex5_right.ok).g x h) (by decide)) (fun h=>rl_le_mono ((okP_le ex5_right.ok).h x h) (by decide))) (fun q hq=>by simp at hq) (FAt w1) (fun q hq=>by simp at hq) (fun q hq=>by simp at hq))
 have PP:=Lib.hid (fun W (hb:Below w1.heap.size w1 W)=>policy_Print v0 v1 v2 v3 ex5P [] W (hp.below hb) ((okP_le ex5_right.ok).mono (by decide) (by decide)) (by decide) (by decide) (by decide) (by decide))
 obtain ⟨a0,c0,rfl⟩:∃ a c,v0=.slice a 1 c:=hp.rs.form
 obtain ⟨a1,c1,rfl⟩:∃ a c,v1=.slice a 1 c:=hp.rg.form
 obtain ⟨a2,c2,rfl⟩:∃ a c,v2=.slice a 0 c:=hp.rh.form
 obtain ⟨a3,c3,rfl⟩:∃ a c,v3=.slice a 0 c:=hp.rq.form
 have HT:=Lib.hid (TwoAt.new w1 #[.slice a0 1 c0,.slice a1 1 c1,.slice a2 0 c2,.slice a3 0 c3] #[.int .i64 0,.int .i64 0,.int .i64 0] 26 48)
 have HB1:=Lib.hid hb1
 have RI:=Lib.hid (rightD_iff (p:=ex5P) (zs:=[]) hp.z hp.F (by decide) (by decide) (by decide))
 clear hpo hp hb1 P
 go_wp2_with fail
 refine (PR.out _ HT.out.low).mono ?_
 rintro e w2 ⟨⟨b,rfl,hb⟩,hb2⟩
 obtain rfl:b=true:=hb.2 (RI.out.2 ex5_right)
 have HT:=Lib.hid (HT.out.later hb2)
 clear hb hb2 PR RI
 obtain ⟨ca,fa,za⟩:=HT.out.a
 go_wp2_with fail
 refine (PP.out _ HT.out.low).mono ?_
 rintro e w3 ⟨⟨t,rfl,ht,_⟩,hb3⟩
 obtain rfl:t=ex5O:=(ht ex5_right).trans ex5_text
 have HT:=Lib.hid (HT.out.later hb3)
 have HO:=Lib.hid (tx_eq (a:=ex5O) (b:=ex5O) rfl)
 clear ht hb3 PP ca fa za
 have d1:(ex5O.toList == [65,46,114,32,60,45,32,66,10,103,114,111,119,32,65,46,114,10])=true:=HO.out
 go_wp2
 go_ret
 exact ⟨rfl,HB1.out.trans (HT.out.low.mono HB1.out.size)⟩
end
section
open Go.RowKit Go.Shelf

theorem step_rowE {P:Program} {w:World} {ops:Array Oper} {o:Oper} {a:Act} {K:Act→World→Prop} {Q:Exit→Act→World→Prop} {E:Prop} (hgd:o.guard=none) (s x:Operand) (t:TypeId)
  (ho:o.op=.call { callee:=.builtin .append,args:=#[s,x],argTypes:=#[t,t] })
  (base:Nat) (e:TypeId) (i:TypeInfo) (z:Value) (size bytes:Nat) (ht:P.underlying t=some (.slice e)) (hi:P.info? e=some i) (hz:i.zero=some z)
  (hsize:i.size=size) (hby:i.bytes=bytes) (hb1000:bytes≤1000) (hzs:z.cells.size=size) (hsz:0 < size)
  (v:Value) (n:Nat) (xs:List Value) (hs:a.eval s=v) (hown:w.ownsRow base e size v n xs)
  (va:Value) (m:Nat) (ys:List Value) (hx:a.eval x=va) (ha:SlA w size va m ys) (h1:∀ u∈ys,u.oneCell'=true)
  (hnm:n+m≤100000000000) (hbase:base≤w.heap.size)
  (h:∀ a' cap' w',w'.ownsRow base e size (.slice a' (n+m) cap') (n+m) (xs++ys)→w.grownBy w' v.ownBlock→(∀ k,k < w.heap.size→some k≠v.ownBlock→some k≠(Value.slice a' (n+m) cap').ownBlock)→K (a.put o.dst (.slice a' (n+m) cap')) w') :
  if Region.wanted o (yielded ops a.tmps)=true then Oper.wp P o a w K Q else E:=by
 by_cases h0:0 < m
 ·obtain ⟨b,off,c,rfl,hc,hm,hb,hcell⟩:=ha.pos h0
  have hl:ys.length=m * size:=by
   rcases ha with ha | ⟨_,rfl,rfl⟩
   ·exact ha.len
   ·simp
  have hbb:(n+m) * bytes≤140737488355328:=Nat.le_trans (Nat.mul_le_mul (Nat.le_refl _) hb1000) (by omega)
  refine step_append_lies w hgd s x t ho base e i z size bytes ht hi hz hsize hby hzs hsz v n xs hs hown ⟨b,off,none⟩ m c ys hx hl (fun j u hu=>by rw [addr_add];exact hcell j u hu) h1 h0 (by simp only [maxLen];omega) hbb hbase _ rfl
   (fun g cap w' h1 h2 h3 _=>h _ cap w' h1 h2 (fun k hk hne he=>?_))
  injection he with he
  dsimp only at he
  subst he
  rcases h3 with h3 | h3
  ·exact hne h3.symm
  ·omega
 ·obtain rfl:m=0:=by omega
  have hy:ys=[]:=by
   rcases ha with ha | ⟨_,_,rfl⟩
   ·have:=ha.len;exact List.eq_nil_of_length_eq_zero (by omega)
   ·rfl
  subst hy
  obtain ⟨ax,cx,rfl⟩:=ha.form
  obtain ⟨ao,cap,rfl,hnc⟩:=own_form2 hown
  refine step_zero w hgd s x t ho e i ht hi ao n cap hnc hs ax cx hx ?_
  refine h ao cap w (by rw [List.append_nil];exact hown) ⟨rfl,rfl,rfl,Nat.le_refl _,fun _ _ _=>rfl⟩ (fun k _ hne he=>hne (by rw [he];cases ao <;> rfl))
structure RowsTwo (w0:World) (e:TypeId) (size:Nat) (v1:Value) (n1:Nat) (x1:List Value) (v2:Value) (n2:Nat) (x2:List Value) (w:World):Prop where
 low:Below w0.heap.size w0 w
 o1:w.ownsRow w0.heap.size e size v1 n1 x1
 o2:w.ownsRow w0.heap.size e size v2 n2 x2
 ne:∀ k,some k=v1.ownBlock→some k≠v2.ownBlock
theorem own_grown {w w':World} {base size n:Nat} {e:TypeId} {v:Value} {xs:List Value} {r:Option Nat} (h:w.ownsRow base e size v n xs) (hg:w.grownBy w' r) (hne:∀ k,some k=v.ownBlock→some k≠r):w'.ownsRow base e size v n xs:=by
 obtain ⟨h1,h2⟩:=h
 refine ⟨h1,?_⟩
 rcases h2 with h2 | ⟨g,cap,cur,rfl,hb,hh,h3⟩
 ·exact .inl h2
 ·exact .inr ⟨g,cap,cur,rfl,hb,(hg.block g (Array.getElem?_eq_some_iff.1 hh).1 (hne g rfl)).trans hh,h3⟩
theorem RowsTwo.grow1 {w0 w w':World} {e:TypeId} {size n1 n2 m:Nat} {v1 v2 v1':Value} {x1 x2 y:List Value} (h:RowsTwo w0 e size v1 n1 x1 v2 n2 x2 w) (hown:w'.ownsRow w0.heap.size e size v1' m y) (hg:w.grownBy w' v1.ownBlock)
  (hn:∀ k,k < w.heap.size→some k≠v1.ownBlock→some k≠v1'.ownBlock):RowsTwo w0 e size v1' m y v2 n2 x2 w' :=
 ⟨below_own h.low h.o1 hg h.low.size (Nat.le_refl _),hown,own_grown h.o2 hg (fun k hk he=>h.ne k he hk),fun k hk he=>hn k (h.o2.lt k he.symm).2 (fun h'=>h.ne k h' he) hk⟩
theorem RowsTwo.swap {w0 w:World} {e:TypeId} {size n1 n2:Nat} {v1 v2:Value} {x1 x2:List Value} (h:RowsTwo w0 e size v1 n1 x1 v2 n2 x2 w):RowsTwo w0 e size v2 n2 x2 v1 n1 x1 w :=
 ⟨h.low,h.o2,h.o1,fun k hk he=>h.ne k he hk⟩
theorem RowsTwo.new {w0 w:World} {e:TypeId} {size n1:Nat} {v1:Value} {x1:List Value} (hb:Below w0.heap.size w0 w) (h:w.ownsRow w0.heap.size e size v1 n1 x1) :
  RowsTwo w0 e size v1 n1 x1 (.slice (some ⟨w.heap.size,0,none⟩) 0 0) 0 [] (w.alloc (.cells #[] e)) :=
 ⟨hb.alloc hb.size _,h.alloc _,World.ownsRow_made w #[] 0 hb.size (Nat.zero_le _) (by simp),fun k hk he=>by
  have:=(h.lt k hk.symm).2
  injection he with he
  dsimp only at he
  omega⟩
end
section
open Go.RowKit Go.Shelf

theorem ref4_UniversalQ (k:Int) (w:World):Calls Tryz.prog 135 #[.int .i64 k] w fun e w'=>e=.returned (.bool (univB k))∧w'=w:=by
 have R:=Lib.hid (show univB k=(decide (k=1) || decide (k=3) || decide (k=5) || decide (k=6)) from rfl)
 generalize univB k=r at *
 go_enter Tryz.func135,Tryz.ntmps135
 by_cases h1:k=1
 ·have d1:(k == 1)=true:=by simp [h1]
  have R2:=Lib.hid (show r=true by rw [R.out,decide_eq_true h1];rfl)
  clear h1
  go_wp2
  go_ret
  exact ⟨ret_b R2.out.symm,rfl⟩
 have d1:(k == 1)=false:=by simp [h1]
 by_cases h3:k=3
 ·have d3:(k == 3)=true:=by simp [h3]
  have R2:=Lib.hid (show r=true by rw [R.out,decide_eq_true h3,Bool.or_true];rfl)
  clear h1 h3
  go_wp2
  go_ret
  exact ⟨ret_b R2.out.symm,rfl⟩
 have d3:(k == 3)=false:=by simp [h3]
 by_cases h5:k=5
 ·have d5:(k == 5)=true:=by simp [h5]
  have R2:=Lib.hid (show r=true by rw [R.out,decide_eq_true h5,Bool.or_true];rfl)
  clear h1 h3 h5
  go_wp2
  go_ret
  exact ⟨ret_b R2.out.symm,rfl⟩
 have d5:(k == 5)=false:=by simp [h5]
 by_cases h6:k=6
 ·have d6:(k == 6)=true:=by simp [h6]
  have R2:=Lib.hid (show r=true by rw [R.out,decide_eq_true h6,Bool.or_true])
  clear h1 h3 h5 h6
  go_wp2
  go_ret
  exact ⟨ret_b R2.out.symm,rfl⟩
 ·have d6:(k == 6)=false:=by simp [h6]
  have R2:=Lib.hid (show r=false by rw [R.out,decide_eq_false h1,decide_eq_false h3,decide_eq_false h5,decide_eq_false h6];rfl)
  clear h1 h3 h5 h6
  go_wp2
  go_ret
  exact ⟨ret_b R2.out.symm,rfl⟩
theorem ref4_UnivQ {k:Int} {b:Bool} (hu:univB k=b) (w:World):Calls Tryz.prog 135 #[.int .i64 k] w fun e w'=>e=.returned (.bool b)∧w'=w:=by
 rw [← hu];exact ref4_UniversalQ k w
end
section
open Go.RowKit Go.Shelf

set_option maxRecDepth 100000 in
set_option maxHeartbeats 2000000 in
theorem ref4_name (t:Tok) (s:ByteArray) (w:World):Calls Tryz.prog 247 #[tkv t,.string s] w fun e w'=>e=.returned (.bool (nameT t s))∧Below w.heap.size w w':=by
 have HB:=Lib.hid (show Below w.heap.size w (w.alloc (.cells #[.int .i64 t.kind,.string ⟨t.text.toArray⟩,.int .i64 t.col] 164)) from (Below.refl _ _).alloc (Nat.le_refl _) _)
 have hbs:(t.text == s.toList)=decide (t.tx=s):=by
  have h:=beq_str t.tx s
  rwa [show t.tx.toList=t.text by rw [ByteArray.toList_eq];simp [Tok.tx]] at h
 by_cases h2:t.kind=2
 ·have d:(t.kind == 2)=true:=by simp [h2]
  have HE:=Lib.hid (show nameT t s=decide (t.tx=s) by unfold nameT;rw [decide_eq_true h2,Bool.true_and])
  generalize nameT t s=res at *
  clear h2
  go_enter Tryz.func247,Tryz.ntmps247
  go_wp2
  go_ret
  exact ⟨ret_b (by rw [HE.out,← hbs]),HB.out⟩
 ·have d:(t.kind == 2)=false:=by simp [h2]
  have HE:=Lib.hid (show nameT t s=false by unfold nameT;rw [decide_eq_false h2,Bool.false_and])
  generalize nameT t s=res at *
  clear h2 hbs
  go_enter Tryz.func247,Tryz.ntmps247
  go_wp2
  go_ret
  exact ⟨ret_b HE.out.symm,HB.out⟩
theorem ref4_Words (k:Int) (h1:1≤k) (h6:k≤6) (w:World):Calls Tryz.prog 136 #[.int .i64 k] w fun e w'=>e=.returned (.string (wordsQ k))∧w'=w:=by
 rcases (show k=1∨k=2∨k=3∨k=4∨k=5∨k=6 by omega) with rfl | rfl | rfl | rfl | rfl | rfl
 all_goals (
  go_enter Tryz.func136,Tryz.ntmps136
  go_wp2
  go_ret
  exact ⟨rfl,rfl⟩)
theorem ref4_front (k:Int) (w:World):Calls Tryz.prog 198 #[.int .i64 k] w fun e w'=>e=.returned (.int .i64 (frontQ k))∧w'=w:=by
 have R:=Lib.hid (show frontQ k=if k=4 then 6 else if 5≤k then 8 else 5 from rfl)
 generalize frontQ k=r at *
 by_cases h4:k=4
 ·have d:(k == 4)=true:=by simp [h4]
  have R:=Lib.hid (show r=6 by rw [R.out,if_pos h4])
  clear h4
  go_enter Tryz.func198,Tryz.ntmps198
  go_wp2
  go_ret
  exact ⟨ret_int (by rw [R.out];rfl),rfl⟩
 ·have d:(k == 4)=false:=by simp [h4]
  by_cases h5:5≤k
  ·have d5:decide (5≤k)=true:=decide_eq_true h5
   have R:=Lib.hid (show r=8 by rw [R.out,if_neg h4,if_pos h5])
   clear h4
   go_enter Tryz.func198,Tryz.ntmps198
   go_wp2
   go_ret
   exact ⟨ret_int (by rw [R.out];rfl),rfl⟩
  ·have d5:decide (5≤k)=false:=decide_eq_false h5
   have R:=Lib.hid (show r=5 by rw [R.out,if_neg h4,if_neg h5])
   clear h4
   go_enter Tryz.func198,Tryz.ntmps198
   go_wp2
   go_ret
   exact ⟨ret_int (by rw [R.out];rfl),rfl⟩
abbrev tkc (t:Tok):Array Value:=#[.int .i64 t.kind,.string ⟨t.text.toArray⟩,.int .i64 t.col]
set_option maxRecDepth 100000 in
set_option maxHeartbeats 8000000 in
theorem ref4_goes (k:Int) (h1:1≤k) (h6:k≤6) (i:Nat) (t:Tok) (w:World) (hi:i≤1000):Calls Tryz.prog 199 #[.int .i64 k,.int .i64 i,tkv t] w fun e w'=>e=.returned (.bool (goesQ k i t))∧Below w.heap.size w w':=by
 have HB:=Lib.hid (show Below w.heap.size w (w.alloc (.cells (tkc t) 164)) from (Below.refl _ _).alloc (Nat.le_refl _) _)
 have HT:=Lib.hid (show OneAt w (tkc t) (w.alloc (.cells (tkc t) 164)) from ⟨Blk.new w _ _,HB.out⟩)
 have NM:=Lib.hid (fun s W=>ref4_name t s W)
 by_cases i0:i=0
 ·subst i0
  cases hu:univB k with
  | true =>
   have UN:=Lib.hid (fun W=>ref4_UnivQ hu W)
   have HE:=Lib.hid (show goesQ k 0 t=nameT t wAlways by rw [g0,hu];simp)
   generalize goesQ k 0 t=res at *
   have NA:=Lib.hid (fun W=>NM.out wAlways W)
   generalize nameT t wAlways=b at *
   clear hu NM
   go_enter Tryz.func199,Tryz.ntmps199
   go_wp2_with fail
   refine (UN.out _).mono ?_
   rintro e w1 ⟨rfl,hw1⟩
   subst hw1
   obtain ⟨ca,fa,za⟩:=HT.out.a
   go_wp2_with fail
   refine (NA.out _).mono ?_
   rintro e w2 ⟨rfl,hb2⟩
   have HB2:=Lib.hid (HB.out.trans (hb2.mono HB.out.size))
   clear hb2
   cases b with
   | true =>
    go_wp2
    go_ret
    exact ⟨ret_b HE.out.symm,HB2.out⟩
   | false =>
    go_wp2_with fail
    refine (UN.out _).mono ?_
    rintro e w3 ⟨rfl,hw3⟩
    subst hw3
    go_wp2
    go_ret
    exact ⟨ret_b HE.out.symm,HB2.out⟩
  | false =>
   have UN:=Lib.hid (fun W=>ref4_UnivQ hu W)
   have HE:=Lib.hid (show goesQ k 0 t=nameT t wCan by rw [g0,hu];simp)
   generalize goesQ k 0 t=res at *
   have NA:=Lib.hid (fun W=>NM.out wCan W)
   generalize nameT t wCan=b at *
   clear hu NM
   go_enter Tryz.func199,Tryz.ntmps199
   go_wp2_with fail
   refine (UN.out _).mono ?_
   rintro e w1 ⟨rfl,hw1⟩
   subst hw1
   obtain ⟨ca,fa,za⟩:=HT.out.a
   go_wp2_with fail
   refine (UN.out _).mono ?_
   rintro e w3 ⟨rfl,hw3⟩
   subst hw3
   go_wp2_with fail
   refine (NA.out _).mono ?_
   rintro e w2 ⟨rfl,hb2⟩
   have HB2:=Lib.hid (HB.out.trans (hb2.mono HB.out.size))
   clear hb2
   go_wp2
   go_ret
   exact ⟨ret_b HE.out.symm,HB2.out⟩
 by_cases i4:i=4
 ·subst i4
  by_cases k4:k=4
  ·subst k4
   have HE:=Lib.hid (show goesQ 4 4 t=nameT t wBe by rw [g4];simp)
   generalize goesQ 4 4 t=res at *
   have NA:=Lib.hid (fun W=>NM.out wBe W)
   generalize nameT t wBe=b at *
   clear NM h1 h6 i0 hi
   go_enter Tryz.func199,Tryz.ntmps199
   go_upto_region 11 with fail
   refine wp_region_held_drew (S:=(fun W => ∀ o,W.cell? ⟨w.heap.size,o,none⟩=(tkc t)[o]?)) (by kernel_rfl) HT.out.drew.a.1 (fun hHeld=>?_)
   have HT:=Lib.hid HT.out.drew
   (refine hyes 0 ?_);(refine hyes 1 ?_);(refine hyes 2 ?_);(refine hyes 3 ?_);(try simp only [Act.put,List.setIfInBounds_toArray,List.set])
   (refine held_call 4 rfl (by kernel_rfl) (fun K hK=>?_);go_simp)
   go_at_call 247;refine (NA.out _).mono ?_;rintro e wz4 ⟨rfl,hbq⟩
   have HT:=Lib.hid (HT.out.later hbq)
   clear hbq
   (refine hK.out _ _ (HT.out.a.1) (fun hHeld=>?_);clear hK K;(try simp only [Act.put,List.setIfInBounds_toArray,List.set]))
   cases b with
   | true =>
    (refine hyes 5 ?_);(refine hyes 6 ?_);(try simp only [Act.put,List.setIfInBounds_toArray,List.set])
    (refine hno 7 ?_);(refine hno 8 ?_);(try simp only [Act.put,List.setIfInBounds_toArray,List.set])
    (refine hno 9 ?_);(try simp only [Act.put,List.setIfInBounds_toArray,List.set])
    (refine hno 10 ?_);(refine hno 11 ?_);(try simp only [Act.put,List.setIfInBounds_toArray,List.set])
    (refine hno 12 ?_);(try simp only [Act.put,List.setIfInBounds_toArray,List.set])
    (refine hno 13 ?_);(try simp only [Act.put,List.setIfInBounds_toArray,List.set])
    (refine hno 14 ?_);(try simp only [Act.put,List.setIfInBounds_toArray,List.set])
    (refine hyes 15 ?_);(refine hyes 16 ?_);(try simp only [Act.put,List.setIfInBounds_toArray,List.set])
    refine wpAnyH_done (by kernel_rfl) ?_ _
    go_wp2
    go_ret
    exact ⟨ret_b HE.out.symm,HT.out.low⟩
   | false =>
    (refine hyes 5 ?_);(refine hyes 6 ?_);(refine hyes 7 ?_);(refine hyes 8 ?_);(refine hyes 9 ?_);(try simp only [Act.put,List.setIfInBounds_toArray,List.set])
    (refine hno 10 ?_);(refine hno 11 ?_);(try simp only [Act.put,List.setIfInBounds_toArray,List.set])
    (refine hno 12 ?_);(try simp only [Act.put,List.setIfInBounds_toArray,List.set])
    (refine hno 13 ?_);(try simp only [Act.put,List.setIfInBounds_toArray,List.set])
    (refine hyes 14 ?_);(refine hyes 15 ?_);(refine hyes 16 ?_);(try simp only [Act.put,List.setIfInBounds_toArray,List.set])
    refine wpAnyH_done (by kernel_rfl) ?_ _
    go_wp2
    go_ret
    exact ⟨ret_b HE.out.symm,HT.out.low⟩
  ·have d4:(k == 4)=false:=by simp [k4]
   have d4':(k != 4)=true:=by simp [k4]
   have HE:=Lib.hid (show goesQ k 4 t=nameT t (wordsQ k) by rw [g4,decide_eq_false k4];simp)
   have WD:=Lib.hid (fun W=>ref4_Words k h1 h6 W)
   generalize goesQ k 4 t=res at *
   have NA:=Lib.hid (fun W=>NM.out (wordsQ k) W)
   generalize nameT t (wordsQ k)=b at *
   generalize wordsQ k=wd at *
   clear NM h1 h6 i0 hi k4
   go_enter Tryz.func199,Tryz.ntmps199
   go_upto_region 11 with fail
   refine wp_region_held_drew (S:=(fun W => ∀ o,W.cell? ⟨w.heap.size,o,none⟩=(tkc t)[o]?)) (by kernel_rfl) HT.out.drew.a.1 (fun hHeld=>?_)
   have HT:=Lib.hid HT.out.drew
   (refine hyes 0 ?_);(refine hyes 1 ?_);(refine hyes 2 ?_);(try simp only [Act.put,List.setIfInBounds_toArray,List.set])
   (refine hno 3 ?_);(try simp only [Act.put,List.setIfInBounds_toArray,List.set])
   (refine hno 4 ?_);(try simp only [Act.put,List.setIfInBounds_toArray,List.set])
   (refine hyes 5 ?_);(refine hyes 6 ?_);(refine hyes 7 ?_);(refine hyes 8 ?_);(refine hyes 9 ?_);(refine hyes 10 ?_);(refine hyes 11 ?_);(try simp only [Act.put,List.setIfInBounds_toArray,List.set])
   (refine held_call 12 rfl (by kernel_rfl) (fun K hK=>?_);go_simp)
   go_at_call 136;refine (WD.out _).mono ?_;rintro e wz12 ⟨rfl,rfl⟩
   (refine hK.out _ _ (HT.out.a.1) (fun hHeld=>?_);clear hK K;(try simp only [Act.put,List.setIfInBounds_toArray,List.set]))
   (refine held_call 13 rfl (by kernel_rfl) (fun K hK=>?_);go_simp)
   go_at_call 247;refine (NA.out _).mono ?_;rintro e wz13 ⟨rfl,hbq⟩
   have HT:=Lib.hid (HT.out.later hbq)
   clear hbq
   (refine hK.out _ _ (HT.out.a.1) (fun hHeld=>?_);clear hK K;(try simp only [Act.put,List.setIfInBounds_toArray,List.set]))
   (refine hyes 14 ?_);(refine hyes 15 ?_);(refine hyes 16 ?_);(try simp only [Act.put,List.setIfInBounds_toArray,List.set])
   refine wpAnyH_done (by kernel_rfl) ?_ _
   go_wp2
   go_ret
   exact ⟨ret_b HE.out.symm,HT.out.low⟩
 have d0:((i:Int) == 0)=false:=by rw [beq_eq_false_iff_ne];omega
 have d4:((i:Int) == 4)=false:=by rw [beq_eq_false_iff_ne];omega
 obtain ⟨ca,fa,za⟩:=HT.out.a
 by_cases i5:i=5
 ·subst i5
  by_cases k4:k=4
  ·subst k4
   have HE:=Lib.hid (show goesQ 4 5 t=nameT t wEmpty by rw [g5];simp)
   generalize goesQ 4 5 t=res at *
   have NA:=Lib.hid (fun W=>NM.out wEmpty W)
   generalize nameT t wEmpty=b at *
   clear NM h1 h6 i0 i4 hi d0 d4
   go_enter Tryz.func199,Tryz.ntmps199
   go_wp2_with fail
   refine (NA.out _).mono ?_
   rintro e w2 ⟨rfl,hb2⟩
   have HB2:=Lib.hid (HB.out.trans (hb2.mono HB.out.size))
   have HT2:=HT.out.later hb2
   obtain ⟨ca2,fa2,za2⟩:=HT2.a
   clear hb2
   cases b <;>
   ·go_wp2
    go_ret
    exact ⟨ret_b HE.out.symm,HB2.out⟩
  ·have d4:(k == 4)=false:=by simp [k4]
   have hk:(t.kind == 1)=decide (t.kind=1):=by by_cases h:t.kind=1 <;> simp [h]
   have HE:=Lib.hid (show goesQ k 5 t=(decide (5≤k) && decide (t.kind=1)) by rw [g5,decide_eq_false k4];simp)
   generalize goesQ k 5 t=res at *
   by_cases k5:5≤k
   ·have d5:decide (5≤k)=true:=decide_eq_true k5
    have HE:=Lib.hid (show res=decide (t.kind=1) by rw [HE.out,d5,Bool.true_and])
    clear NM i0 i4 hi k4
    go_enter Tryz.func199,Tryz.ntmps199
    go_wp2
    go_ret
    exact ⟨ret_b (by rw [HE.out,← hk]),HB.out⟩
   ·have d5:decide (5≤k)=false:=decide_eq_false k5
    have HE:=Lib.hid (show res=false by rw [HE.out,d5,Bool.false_and])
    clear NM i0 i4 hi k4 hk
    go_enter Tryz.func199,Tryz.ntmps199
    go_wp2
    go_ret
    exact ⟨ret_b HE.out.symm,HB.out⟩
 have hk1:(t.kind == 1)=decide (t.kind=1):=by by_cases h:t.kind=1 <;> simp [h]
 have hk2:(t.kind == 2)=decide (t.kind=2):=by by_cases h:t.kind=2 <;> simp [h]
 have hk3:(t.kind == 3)=decide (t.kind=3):=by by_cases h:t.kind=3 <;> simp [h]
 clear NM
 by_cases i1:i=1
 ·subst i1
  have HE:=Lib.hid (g1 k t)
  generalize goesQ k 1 t=res at *
  clear hk2 hk3 d0 d4 i0 i4 i5
  go_enter Tryz.func199,Tryz.ntmps199
  go_wp2
  go_ret
  exact ⟨ret_b (by rw [HE.out,← hk1]),HB.out⟩
 by_cases i2:i=2
 ·subst i2
  have HE:=Lib.hid (g2 k t)
  generalize goesQ k 2 t=res at *
  clear hk2 hk1 d0 d4 i0 i4 i5 i1
  go_enter Tryz.func199,Tryz.ntmps199
  go_wp2
  go_ret
  exact ⟨ret_b (by rw [HE.out,← hk3]),HB.out⟩
 by_cases i3:i=3
 ·subst i3
  have HE:=Lib.hid (g3 k t)
  generalize goesQ k 3 t=res at *
  clear hk1 hk3 d0 d4 i0 i4 i5 i1 i2
  go_enter Tryz.func199,Tryz.ntmps199
  go_wp2
  go_ret
  exact ⟨ret_b (by rw [HE.out,← hk2]),HB.out⟩
 have d1:((i:Int) == 1)=false:=by rw [beq_eq_false_iff_ne];omega
 have d2:((i:Int) == 2)=false:=by rw [beq_eq_false_iff_ne];omega
 have d3:((i:Int) == 3)=false:=by rw [beq_eq_false_iff_ne];omega
 have d5':((i:Int) == 5)=false:=by rw [beq_eq_false_iff_ne];omega
 by_cases i6:i=6
 ·subst i6
  have HE:=Lib.hid (g6 k t)
  generalize goesQ k 6 t=res at *
  by_cases k5:5≤k
  ·have d5:decide (5≤k)=true:=decide_eq_true k5
   have HE:=Lib.hid (show res=decide (t.kind=3) by rw [HE.out,d5,Bool.true_and])
   clear hk1 hk2 d0 d4 i0 i4 i5 i1 i2 i3 d1 d2 d3 d5'
   go_enter Tryz.func199,Tryz.ntmps199
   go_wp2
   go_ret
   exact ⟨ret_b (by rw [HE.out,← hk3]),HB.out⟩
  ·have d5:decide (5≤k)=false:=decide_eq_false k5
   have HE:=Lib.hid (show res=false by rw [HE.out,d5,Bool.false_and])
   clear hk1 hk2 hk3 d0 d4 i0 i4 i5 i1 i2 i3 d1 d2 d3 d5'
   go_enter Tryz.func199,Tryz.ntmps199
   go_wp2
   go_ret
   exact ⟨ret_b HE.out.symm,HB.out⟩
 have d6:((i:Int) == 6)=false:=by rw [beq_eq_false_iff_ne];omega
 by_cases i7:i=7
 ·subst i7
  have HE:=Lib.hid (g7 k t)
  generalize goesQ k 7 t=res at *
  by_cases k5:5≤k
  ·have d5:decide (5≤k)=true:=decide_eq_true k5
   have HE:=Lib.hid (show res=decide (t.kind=2) by rw [HE.out,d5,Bool.true_and])
   clear hk1 hk3 d0 d4 i0 i4 i5 i1 i2 i3 d1 d2 d3 d5' d6 i6
   go_enter Tryz.func199,Tryz.ntmps199
   go_wp2
   go_ret
   exact ⟨ret_b (by rw [HE.out,← hk2]),HB.out⟩
  ·have d5:decide (5≤k)=false:=decide_eq_false k5
   have HE:=Lib.hid (show res=false by rw [HE.out,d5,Bool.false_and])
   clear hk1 hk2 hk3 d0 d4 i0 i4 i5 i1 i2 i3 d1 d2 d3 d5' d6 i6
   go_enter Tryz.func199,Tryz.ntmps199
   go_wp2
   go_ret
   exact ⟨ret_b HE.out.symm,HB.out⟩
 have d7:((i:Int) == 7)=false:=by rw [beq_eq_false_iff_ne];omega
 have HE:=Lib.hid (show goesQ k i t=false by
  unfold goesQ
  rw [if_neg i0,if_neg i1,if_neg i2,if_neg i3,if_neg i4,if_neg i5,if_neg i6,if_neg i7])
 generalize goesQ k i t=res at *
 clear hk1 hk2 hk3 i0 i4 i5 i1 i2 i3 i6 i7
 by_cases k5:5≤k
 ·have d5:decide (5≤k)=true:=decide_eq_true k5
  go_enter Tryz.func199,Tryz.ntmps199
  go_wp2
  go_ret
  exact ⟨ret_b HE.out.symm,HB.out⟩
 ·have d5:decide (5≤k)=false:=decide_eq_false k5
  go_enter Tryz.func199,Tryz.ntmps199
  go_wp2
  go_ret
  exact ⟨ret_b HE.out.symm,HB.out⟩
end
section
open Go.RowKit Go.Shelf

set_option maxRecDepth 100000 in
set_option maxHeartbeats 4000000 in
theorem ref1_PutO (va:Value) (l:List ByteArray) (s:ByteArray) (w:World) (ha:SlA w 1 va l.length (strs l)) (hn:l.length≤100000) :
  Calls Tryz.prog 168 #[va,.string s] w fun e w' => ∃ v,e=.returned v∧((v=va∧insSB l s=l)∨w'.ownsRow w.heap.size 9 1 v (insSB l s).length (strs (insSB l s)))∧Below w.heap.size w w':=by
 have HA:=Lib.hid ha
 have HH:=Lib.hid (ref1_HasB va l s w ha)
 have IY:=Lib.hid (fun h=>insS_hasB (l:=l) (x:=s) h)
 have IN:=Lib.hid (fun h=>insS_notB (l:=l) (x:=s) h)
 have NE:=Lib.hid (fun (h:hasB l s=false) k (hk:k < l.length)=>show ¬ l[k]=s from fun e=>absurd (hasB_yes hk e) (by rw [h];exact Bool.false_ne_true))
 generalize hasB l s=b at HH IY IN NE
 have hmax:=ha.max
 obtain ⟨ao,cap,hva⟩:=ha.form
 subst hva
 clear ha
 go_enter Tryz.func168,Tryz.ntmps168
 go_wp2_with fail
 refine HH.out.mono ?_
 rintro e w1 ⟨rfl,rfl⟩
 cases b with
 | true =>
  go_wp2
  go_ret
  exact ⟨_,rfl,.inl ⟨rfl,IY.out (by first | rfl | trivial)⟩,Below.refl _ _⟩
 | false =>
  obtain ⟨wA,hwA⟩:∃ wA,wA=w1:=⟨_,rfl⟩
  subst hwA
  have INS:=Lib.hid (IN.out rfl)
  have NEQ:=Lib.hid (NE.out rfl)
  clear IY IN NE
  go_wp2_with fail
  go_loopw [5,6,15] (fun vo dv i wr => ∃ (k:Nat) (d:Bool) (ss:List ByteArray),k≤l.length∧i=.int .i64 k∧dv=.bool d∧Hid (PutI l s k d ss)∧Hid (Below wA.heap.size wA wr)∧Hid (wr.ownsRow wA.heap.size 9 1 vo ss.length (strs ss))) (fun _ _ i _=>l.length - (intOf i).toNat)
  case atStart=>exact ⟨0,false,[],by omega,rfl,rfl,Lib.hid (PutI.start l s),Lib.hid (Below.refl _ _),Lib.hid (World.ownsRow_nil _ _ _ _)⟩
  case round =>
   obtain ⟨k,d,ss,hk,rfl,rfl,HC,HB,HO⟩:=hrel
   obtain ⟨oo,oc,rfl⟩:=own_form HO.out
   have hss:ss.length≤100002:=by have:=HC.out.len;omega
   by_cases hlt:k < l.length
   ·obtain ⟨b1,o1,c1,he1,hc1,hm1,hb1,hx1⟩:=HA.out.pos (by omega)
    simp only [Value.slice.injEq,true_and] at he1
    obtain ⟨rfl,rfl⟩:=he1
    have p0:=(HB.out.cell (p:=⟨b1,o1+k,none⟩) hb1).trans (hx1 k _ (strs_get hlt))
    have hbr:b1 < wr.heap.size:=Nat.lt_of_lt_of_le hb1 HB.out.size
    have PY:=Lib.hid (fun (h:PutI l s k true ss)=>h.yes hlt)
    have PN:=Lib.hid (fun (h:PutI l s k false ss) e=>h.no hlt (NEQ.out k hlt) e)
    have PP:=Lib.hid (fun (h:PutI l s k false ss) e=>h.put hlt e)
    clear hx1
    generalize l[k]=x at *
    cases d with
    | true =>
     have HC':=HC.out
     have hown:=HO.out
     go_wp2_with (at_builtin;refine halt_ ?_)
     unfold Halt_
     refine app_own Tryz.underlying27 str_info rfl (by decide) (by decide) rfl _ _ rfl wA.heap.size rfl (hown.alloc _) [.string x] rfl (heap_new1 _ _) rfl (str1 _) ?_ ?_ ?_
     ·omega
     ·have:=HB.out.size;simp;omega
     intro a' cap' w3 hown' hgrow
     obtain ⟨q1,q2⟩:=own_push (x:=x) HB.out hown hown' hgrow
     have HO1:=Lib.hid q1
     have HB1:=Lib.hid q2
     clear hown hown' hgrow q1 q2
     go_wp2_with fail
     exact ⟨⟨k+1,true,ss++[x],by omega,by go_num,rfl,Lib.hid (PY.out HC'),HB1,HO1⟩,by simp [intOf];omega⟩
    | false =>
     have HC':=HC.out
     cases hbl:Op.bytesLess s.toList x.toList with
     | false =>
      have hown:=HO.out
      go_wp2_with (at_builtin;refine halt_ ?_)
      unfold Halt_
      refine app_own Tryz.underlying27 str_info rfl (by decide) (by decide) rfl _ _ rfl wA.heap.size rfl (hown.alloc _) [.string x] rfl (heap_new1 _ _) rfl (str1 _) ?_ ?_ ?_
      ·omega
      ·have:=HB.out.size;simp;omega
      intro a' cap' w3 hown' hgrow
      obtain ⟨q1,q2⟩:=own_push (x:=x) HB.out hown hown' hgrow
      have HO1:=Lib.hid q1
      have HB1:=Lib.hid q2
      clear hown hown' hgrow q1 q2
      go_wp2_with fail
      exact ⟨⟨k+1,false,ss++[x],by omega,by go_num,rfl,Lib.hid (PN.out HC' hbl),HB1,HO1⟩,by simp [intOf];omega⟩
     | true =>
      have hown:=HO.out
      go_wp2_with (at_builtin;refine halt_ ?_)
      unfold Halt_
      refine app_own Tryz.underlying27 str_info rfl (by decide) (by decide) rfl _ _ rfl wA.heap.size rfl (hown.alloc _) [.string s] rfl (heap_new1 _ _) rfl (str1 _) ?_ ?_ ?_
      ·omega
      ·have:=HB.out.size;simp;omega
      intro a' cap' w3 hown' hgrow
      obtain ⟨q1,q2⟩:=own_push (x:=s) HB.out hown hown' hgrow
      have HO1:=Lib.hid q1
      have HB1:=Lib.hid q2
      clear hown hown' hgrow q1 q2
      have hown:=HO1.out
      go_wp2_with (at_builtin;refine halt_ ?_)
      unfold Halt_
      refine app_own Tryz.underlying27 str_info rfl (by decide) (by decide) rfl _ _ rfl wA.heap.size rfl (hown.alloc _) [.string x] rfl (heap_new1 _ _) rfl (str1 _) ?_ ?_ ?_
      ·(simp only [List.length_append,List.length_cons,List.length_nil];omega)
      ·have:=HB1.out.size;simp;omega
      intro a' cap' w3 hown' hgrow
      obtain ⟨q1,q2⟩:=own_push (x:=x) HB1.out hown hown' hgrow
      have HO2:=Lib.hid q1
      have HB2:=Lib.hid q2
      clear hown hown' hgrow q1 q2
      go_wp2_with fail
      refine ⟨⟨k+1,true,ss++[s]++[x],by omega,by go_num,rfl,Lib.hid (PP.out HC' hbl),HB2,Lib.hid (by have h:=HO2.out;rw [show (ss++[s]).length+1=ss.length+1+1 by simp] at h;exact h)⟩,by simp [intOf];omega⟩
   ·cases d with
    | true =>
     have HC':=HC.out
     have HSL:=Lib.hid (Sl.of_own HO.out).a
     have HSO:=Lib.hid (HO.out)
     go_wp2
     go_ret
     exact ⟨_,rfl,.inr (by rw [INS.out,← HC'.endT (by omega)];exact HSO.out),HB.out⟩
    | false =>
     have HC':=HC.out
     have hown:=HO.out
     go_wp2_with (at_builtin;refine halt_ ?_)
     unfold Halt_
     refine app_own Tryz.underlying27 str_info rfl (by decide) (by decide) rfl _ _ rfl wA.heap.size rfl (hown.alloc _) [.string s] rfl (heap_new1 _ _) rfl (str1 _) ?_ ?_ ?_
     ·omega
     ·have:=HB.out.size;simp;omega
     intro a' cap' w3 hown' hgrow
     obtain ⟨q1,q2⟩:=own_push (x:=s) HB.out hown hown' hgrow
     have HO1:=Lib.hid q1
     have HB1:=Lib.hid q2
     clear hown hown' hgrow q1 q2
     have HSL:=Lib.hid (Sl.of_own HO1.out).a
     have HSO:=Lib.hid (HO1.out)
     go_wp2
     go_ret
     exact ⟨_,rfl,.inr (by rw [INS.out,← HC'.endF (by omega)];exact HSO.out),HB1.out⟩

end
end Go.Proofs.YtomhekohcadijaaGreatDoor
