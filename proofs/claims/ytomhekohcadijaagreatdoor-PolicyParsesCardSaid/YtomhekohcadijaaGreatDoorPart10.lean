/- Parts: RlConcO PolRoles PolPrins RlLaw RlComp RlSortF -/
import Derived.Test.YtomhekohcadijaaGreatDoorPart6
import Derived.Test.YtomhekohcadijaaGreatDoorShelf
import Derived.Test.YtomhekohcadijaaGreatDoorPart4
import Derived.Test.YtomhekohcadijaaGreatDoorPart8
import Derived.Test.YtomhekohcadijaaGreatDoorPart7
import Derived.Test.YtomhekohcadijaaGreatDoorPart3
namespace Go.Proofs.YtomhekohcadijaaGreatDoor
section
open Go.RowKit Go.Shelf

theorem own_base {w:World} {base base' size n:Nat} {e:TypeId} {v:Value} {xs:List Value} (h:w.ownsRow base e size v n xs) (hb:base'≤base):w.ownsRow base' e size v n xs:=by
 obtain ⟨h1,h2⟩:=h
 refine ⟨h1,?_⟩
 rcases h2 with h2 | ⟨g,cap,cur,rfl,h3,h4⟩
 ·exact .inl h2
 ·exact .inr ⟨g,cap,cur,rfl,Nat.le_trans hb h3,h4⟩
theorem str_CloneO (v:Value) (l:List ByteArray) (w:World) (h:SlA w 1 v l.length (strs l)) (hl:l.length≤100000) :
  Calls Tryz.prog 257 #[v] w fun e w' => ∃ v',e=.returned v'∧w'.ownsRow w.heap.size 9 1 v' l.length (strs l)∧Below w.heap.size w w':=by
 by_cases h0:0 < l.length
 ·obtain ⟨b1,o1,c1,rfl,hc1,hm1,hb1,hx1⟩:=h.pos h0
  refine (Tryz.slices_Clone_string b1 o1 l.length c1 l w (Nat.le_refl _) (by omega) (fun j hj=>by
   rw [hx1 j _ (strs_get hj),List.getD_eq_getElem?_getD,List.getElem?_eq_getElem hj];rfl)).mono ?_
  rintro e w' ⟨v',he,hown,_,hb⟩
  rw [List.take_of_length_le (Nat.le_refl _)] at hown
  exact ⟨v',he,hown,hb⟩
 ·obtain rfl:l=[]:=List.eq_nil_of_length_eq_zero (by omega)
  obtain ⟨ao,ac,rfl⟩:=h.form
  cases ao with
  | none =>
   refine (Tryz.slices_Clone_string_nil _ ac w).mono ?_
   rintro e w' ⟨he,rfl⟩
   exact ⟨_,he,World.ownsRow_nil _ _ _ _,Below.refl _ _⟩
  | some a =>
   refine (Tryz.slices_Clone_string_zero a ac w).mono ?_
   rintro e w' ⟨v',he,hown,_,hb⟩
   exact ⟨v',he,hown,hb⟩
theorem rl_GrowO (n:Nat) (w:World) (hn:n≤2000):Calls Tryz.prog 293 #[.slice none 0 0,.int .i64 n] w fun e w' =>
  ∃ a cap,e=.returned (.slice a 0 cap)∧w'.ownsRow w.heap.size 78 2 (.slice a 0 cap) 0 []∧Below w.heap.size w w':=by
 by_cases h0:0 < n
 ·obtain ⟨inf,hinf,hz0,hz1,hz2⟩:=info_parts rl_info'
  refine (Any8.slices_Grow_grow Tryz.growR inf _ hinf hz0 (by omega) none 0 0 n [] w (Nat.le_refl _) (by omega) (by rw [hz2];omega) (by omega) (by simp) (fun _=>rfl) (fun a h=>by cases h)).mono ?_
  rintro e w' ⟨rfl,rfl⟩
  have hge:=grownCap_ge w (0+n) 0 78
  have hle:=grownCap_le_maxLen w (0+n) 0 78 (by simp only [maxLen];omega)
  refine ⟨_,_,rfl,World.ownsRow_made w.drew _ _ (Nat.le_refl _) hle ?_,(below_drew (Below.refl _ _)).alloc (Nat.le_refl _) _⟩
  rw [Nat.zero_add] at hge hle ⊢
  simp [Builtin.zeroCells,Value.cells]
  rw [show Tryz.growR_ren.t 25=78 from rfl]
  omega
 ·obtain rfl:n=0:=by omega
  refine (Any8.slices_Grow_room Tryz.growR none 0 0 0 w (Nat.le_refl _) (by omega) (by omega) (by omega)).mono ?_
  rintro e w' ⟨rfl,rfl⟩
  exact ⟨_,_,rfl,World.ownsRow_nil _ _ _ _,Below.refl _ _⟩
set_option maxRecDepth 100000 in
set_option maxHeartbeats 4000000 in
theorem rl_ConcatO (g:Nat) (va vb:Value) (l m:List Rl) (w:World) (hg:Blk w g #[va,vb]) (ha:SlA w 2 va l.length (l.flatMap Rl.cells)) (hb:SlA w 2 vb m.length (m.flatMap Rl.cells)) (hl:l.length≤1000) (hm:m.length≤1000) :
  Calls Tryz.prog 254 #[.slice (some ⟨g,0,none⟩) 2 2] w fun e w' => ∃ v,e=.returned v∧w'.ownsRow w.heap.size 78 2 v (l++m).length ((l++m).flatMap Rl.cells)∧Below w.heap.size w w':=by
 have HA:=Lib.hid ha
 have HB:=Lib.hid hb
 have HG:=Lib.hid hg
 obtain ⟨ao,ac,hva⟩:=ha.form
 obtain ⟨bo,bc,hvb⟩:=hb.form
 subst hva hvb
 have GR:Hid (∀ W,Calls Tryz.prog 293 #[.slice none 0 0,.int .i64 ((l.length:Int)+(m.length:Int))] W fun e w' =>
   ∃ a cap,e=.returned (.slice a 0 cap)∧w'.ownsRow W.heap.size 78 2 (.slice a 0 cap) 0 []∧Below W.heap.size W w'):=Lib.hid (fun W=>by
  have h:=rl_GrowO (l.length+m.length) W (by omega)
  rw [Int.natCast_add] at h
  exact h)
 have c0:w.cell? ⟨g,0,none⟩=some (.slice ao l.length ac):=(hg.1 0).trans rfl
 have c1:w.cell? ⟨g,1,none⟩=some (.slice bo m.length bc):=(hg.1 1).trans rfl
 have hgw:g < w.heap.size:=hg.2.2
 clear ha hb hg
 go_enter Tryz.func254,Tryz.ntmps254
 go_wp2
 go_loop [3,11] (fun n i=>(n=.int .i64 0∧i=.int .i64 0)∨(n=.int .i64 l.length∧i=.int .i64 1)∨(n=.int .i64 ((l.length:Int)+(m.length:Int))∧i=.int .i64 2)) (fun _ i=>2 - (intOf i).toNat)
 case atStart=>exact .inl ⟨rfl,rfl⟩
 case round =>
  obtain ⟨rfl,rfl⟩ | ⟨rfl,rfl⟩ | ⟨rfl,rfl⟩:=hrel
  ·have d:decide ((l.length:Int) < 0)=false:=by (rw [decide_eq_false_iff_not];omega)
   have hw:IntKind.i64.wrap ((0:Int)+(l.length:Int))=(l.length:Int):=by rw [Int.zero_add];exact Go.IntWalk.i64_in _ (by omega)
   go_wp2
   exact ⟨.inr (.inl ⟨rfl,rfl⟩),by simp [intOf]⟩
  ·have d:decide ((l.length:Int)+(m.length:Int) < 0)=false:=by (rw [decide_eq_false_iff_not];omega)
   have hw:IntKind.i64.wrap ((l.length:Int)+(m.length:Int))=(l.length:Int)+(m.length:Int):=Go.IntWalk.i64_in _ (by omega)
   go_wp2
   exact ⟨.inr (.inr ⟨rfl,rfl⟩),by simp [intOf]⟩
  ·go_wp2_with fail
   refine (GR.out _).mono ?_
   rintro e w1 ⟨a1,cap1,rfl,hown,hb1⟩
   have HO:=Lib.hid hown
   have HB1:=Lib.hid hb1
   clear hown hb1 c0 c1 hgw
   go_wp2_with fail
   go_loopw [6,27] (fun vo i wr=>Hid (Below w.heap.size w wr)∧((i=.int .i64 0∧Hid (wr.ownsRow w.heap.size 78 2 vo 0 []))∨(i=.int .i64 1∧Hid (wr.ownsRow w.heap.size 78 2 vo l.length (l.flatMap Rl.cells)))∨(i=.int .i64 2∧Hid (wr.ownsRow w.heap.size 78 2 vo (l.length+m.length) ((l++m).flatMap Rl.cells))))) (fun _ i _=>2 - (intOf i).toNat)
   case atStart=>exact ⟨HB1,.inl ⟨rfl,HO⟩⟩
   case round =>
    obtain ⟨HBR,⟨rfl,HOR⟩ | ⟨rfl,HOR⟩ | ⟨rfl,HOR⟩⟩:=hrel
    ·have hbk:=HG.out.below HBR.out
     have c0:wr.cell? ⟨g,0,none⟩=some (.slice ao l.length ac):=(hbk.1 0).trans rfl
     have hgw:g < wr.heap.size:=hbk.2.2
     obtain ⟨xo,xc,rfl⟩:=own_form HOR.out
     clear hbk
     go_wp2_with (at_builtin;refine halt_ ?_)
     unfold Halt_
     refine app_row Tryz.underlying23 rl_info' rfl (by decide) (by decide) rfl _ _ rfl w.heap.size rfl HOR.out rfl (HA.out.below HBR.out) (rls_one _) (by omega) HBR.out.size ?_
     intro a' cap' w3 hown' hgrow
     have HO3:=Lib.hid (show w3.ownsRow w.heap.size 78 2 (.slice a' l.length cap') l.length (l.flatMap Rl.cells) by simpa using hown')
     have HB3:=Lib.hid (below_own HBR.out HOR.out hgrow HBR.out.size (Nat.le_refl _))
     clear hown' hgrow
     go_wp2_with fail
     exact ⟨⟨HB3,.inr (.inl ⟨rfl,HO3⟩)⟩,by simp [intOf]⟩
    ·have hbk:=HG.out.below HBR.out
     have c1:wr.cell? ⟨g,1,none⟩=some (.slice bo m.length bc):=(hbk.1 1).trans rfl
     have hgw:g < wr.heap.size:=hbk.2.2
     obtain ⟨xo,xc,rfl⟩:=own_form HOR.out
     clear hbk
     go_wp2_with (at_builtin;refine halt_ ?_)
     unfold Halt_
     refine app_row Tryz.underlying23 rl_info' rfl (by decide) (by decide) rfl _ _ rfl w.heap.size rfl HOR.out rfl (HB.out.below HBR.out) (rls_one _) (by omega) HBR.out.size ?_
     intro a' cap' w3 hown' hgrow
     have HO3:=Lib.hid (show w3.ownsRow w.heap.size 78 2 (.slice a' (l.length+m.length) cap') (l.length+m.length) ((l++m).flatMap Rl.cells) by rw [rl_flat];exact hown')
     have HB3:=Lib.hid (below_own HBR.out HOR.out hgrow HBR.out.size (Nat.le_refl _))
     clear hown' hgrow
     go_wp2_with fail
     exact ⟨⟨HB3,.inr (.inr ⟨rfl,HO3⟩)⟩,by simp [intOf]⟩
    ·obtain ⟨xo,xc,rfl⟩:=own_form HOR.out
     go_wp2_with fail
     go_ret
     exact ⟨_,rfl,by rw [List.length_append];exact HOR.out,HBR.out⟩
end
section
open Go.RowKit Go.Shelf

theorem query_second (k:Int) (w:World):Calls Tryz.prog 170 #[.int .i64 k] w fun e w'=>e=.returned (.bool (decide (k=5∨k=6)))∧w'=w:=by
 by_cases h5:k=5
 ·subst h5
  go_enter Tryz.func170,Tryz.ntmps170
  go_wp2
  go_ret
  exact ⟨rfl,rfl⟩
 ·by_cases h6:k=6
  ·subst h6
   go_enter Tryz.func170,Tryz.ntmps170
   go_wp2
   go_ret
   exact ⟨rfl,rfl⟩
  ·have hd:=Lib.hid (show decide (k=5∨k=6)=false from decide_eq_false (fun h=>h.elim h5 h6))
   have d5:(k == 5)=false:=by rw [beq_eq_false_iff_ne];exact h5
   have d6:(k == 6)=false:=by rw [beq_eq_false_iff_ne];exact h6
   go_enter Tryz.func170,Tryz.ntmps170
   go_wp2
   go_ret
   exact ⟨by rw [hd.out];rfl,rfl⟩
theorem query_Roles (q:Qv) (w:World) :
  Calls Tryz.prog 256 #[qv q] w fun e w' => ∃ v,e=.returned v∧Sl w' 2 v (rolesQ q).length ((rolesQ q).flatMap Rl.cells)∧Below w.heap.size w w':=by
 have SE:=Lib.hid (fun W=>query_second q.k W)
 have RY:=Lib.hid (fun (h:q.k=5∨q.k=6)=>show rolesQ q=[q.a,q.b] from if_pos h)
 have RN:=Lib.hid (fun (h:¬ (q.k=5∨q.k=6))=>show rolesQ q=[q.a] from if_neg h)
 obtain ⟨k,⟨a1,a2⟩,⟨b1,b2⟩,v⟩:=q
 by_cases hk:k=5∨k=6
 ·have hd:decide (k=5∨k=6)=true:=decide_eq_true hk
  rw [hd] at SE
  rw [RY.out hk]
  clear RY RN hk hd
  go_enter Tryz.func256,Tryz.ntmps256
  go_wp2_with fail
  refine (SE.out _).mono ?_
  rintro e w1 ⟨rfl,rfl⟩
  go_wp2
  go_ret
  exact ⟨.slice (some ⟨w.heap.size+1,0,none⟩) 2 2,rfl,Sl.new _ [.string a1,.string a2,.string b1,.string b2] _ 2 2 (w.heap.size+1) (by simp) rfl (by simp [maxLen]),((Below.refl _ _).alloc (Nat.le_refl _) _).alloc (by simp) _⟩
 ·have hd:decide (k=5∨k=6)=false:=decide_eq_false hk
  rw [hd] at SE
  rw [RN.out hk]
  clear RY RN hk hd
  go_enter Tryz.func256,Tryz.ntmps256
  go_wp2_with fail
  refine (SE.out _).mono ?_
  rintro e w1 ⟨rfl,rfl⟩
  go_wp2
  go_ret
  exact ⟨.slice (some ⟨w.heap.size+1,0,none⟩) 1 1,rfl,Sl.new _ [.string a1,.string a2] _ 2 1 (w.heap.size+1) (by simp) rfl (by simp [maxLen]),((Below.refl _ _).alloc (Nat.le_refl _) _).alloc (by simp) _⟩

def polRoles (l:List St) (g h:List Rl) (qs:List Qv):List Rl:=g++h++l.flatMap rolesS++qs.flatMap rolesQ
theorem rolesS_len (s:St):(rolesS s).length≤3:=by
 unfold rolesS
 split
 ·simp
 ·split <;> simp
theorem rolesQ_len (q:Qv):(rolesQ q).length≤2:=by
 unfold rolesQ
 split <;> simp
theorem push_roles {w wr w3:World} {A:Array Value} {vo:Value} {n m:Nat} {rs ms:List Rl} {a':Option Addr} {cap':Nat} (ht:OneAt w A wr) (hown:wr.ownsRow (w.heap.size+1) 78 2 vo n (rs.flatMap Rl.cells))
  (h:w3.ownsRow (w.heap.size+1) 78 2 (.slice a' (n+m) cap') (n+m) (rs.flatMap Rl.cells++ms.flatMap Rl.cells)) (hg:wr.grownBy w3 vo.ownBlock) :
  w3.ownsRow (w.heap.size+1) 78 2 (.slice a' (n+m) cap') (n+m) ((rs++ms).flatMap Rl.cells)∧OneAt w A w3:=by
 refine ⟨by rw [rl_flat];exact h,ht.a.grown hg (own_gt_ne hown (Nat.lt_succ_self _)),?_⟩
 exact below_own ht.low hown hg (by have:=ht.low.size;omega) (Nat.le_succ _)
set_option maxRecDepth 100000 in
set_option maxHeartbeats 8000000 in
theorem policy_roles (v0 v1 v2 v3:Value) (l:List St) (g h:List Rl) (qs:List Qv) (w:World) (hp:PolAt w v0 v1 v2 v3 l g h qs) (hl:l.length≤100) (hg:g.length≤100) (hh:h.length≤100) (hq:qs.length≤100) :
  Calls Tryz.prog 213 #[pv v0 v1 v2 v3] w fun e w' => ∃ v,e=.returned v∧SlA w' 2 v (polRoles l g h qs).length ((polRoles l g h qs).flatMap Rl.cells)∧(polRoles l g h qs).length≤1000∧Below w.heap.size w w':=by
 have HP:=Lib.hid hp
 have CO:=Lib.hid (fun b W (hb:Below w.heap.size w W) (hx:Blk W b #[v1,v2])=>rl_ConcatO b v1 v2 g h W hx (hp.rg.below hb) (hp.rh.below hb) (by omega) (by omega))
 obtain ⟨a0,c0,rfl⟩:=hp.rs.form
 obtain ⟨a1,c1,rfl⟩:=hp.rg.form
 obtain ⟨a2,c2,rfl⟩:=hp.rh.form
 obtain ⟨a3,c3,rfl⟩:=hp.rq.form
 have HT:=Lib.hid (show OneAt w #[.slice a0 l.length c0,.slice a1 g.length c1,.slice a2 h.length c2,.slice a3 qs.length c3] (w.alloc (.cells #[.slice a0 l.length c0,.slice a1 g.length c1,.slice a2 h.length c2,.slice a3 qs.length c3] 26)) from ⟨Blk.new w _ _,(Below.refl _ _).alloc (Nat.le_refl _) _⟩)
 clear hp
 go_enter Tryz.func213,Tryz.ntmps213
 go_wp2_with fail
 refine (CO.out (w.heap.size+1) _ (((Below.refl _ _).alloc (Nat.le_refl _) _).alloc (by simp) _) (by have:=Blk.new (w.alloc (.cells #[.slice a0 l.length c0,.slice a1 g.length c1,.slice a2 h.length c2,.slice a3 qs.length c3] 26)) #[.slice a1 g.length c1,.slice a2 h.length c2] 23;simpa using this)).mono ?_
 rintro e w1 ⟨vo,rfl,hown,hb⟩
 obtain ⟨r0,hr0⟩:∃ r,r=g++h:=⟨_,rfl⟩
 rw [← hr0] at hown
 have HT:=Lib.hid ((HT.out.alloc _).later hb)
 have HO:=Lib.hid (own_base (base':=w.heap.size+1) hown (by simp))
 obtain ⟨oo,oc,rfl⟩:=own_form hown
 clear hown hb CO
 have hn0:r0.length≤200+3 * 0:=by rw [hr0,List.length_append];omega
 have HE0:=Lib.hid hr0
 clear hr0
 obtain ⟨ca,fa,za⟩:=HT.out.a
 go_wp2_with fail
 clear ca fa za
 go_loopw [3,17] (fun vo i wr => ∃ (k:Nat) (rs:List Rl),k≤l.length∧i=.int .i64 k∧Hid (rs.length≤200+3 * k)∧Hid (OneAt w #[.slice a0 l.length c0,.slice a1 g.length c1,.slice a2 h.length c2,.slice a3 qs.length c3] wr)∧Hid (wr.ownsRow (w.heap.size+1) 78 2 vo rs.length (rs.flatMap Rl.cells))∧Hid (rs=g++h++(l.take k).flatMap rolesS)) (fun _ i _=>l.length - (intOf i).toNat)
 case atStart=>exact ⟨0,_,by omega,rfl,Lib.hid hn0,HT,HO,Lib.hid (by rw [HE0.out];simp)⟩
 case round =>
  clear HT HO hn0 HE0
  obtain ⟨k,rs,hk,rfl,HC,HT,HO,HE⟩:=hrel
  obtain ⟨oo,oc,rfl⟩:=own_form HO.out
  have hrs:=HC.out
  by_cases hlt:k < l.length
  ·obtain ⟨b1,o1,e1,he1,hc1,hm1',hb1,hx1⟩:=HP.out.rs.pos (by omega)
   simp only [Value.slice.injEq,true_and] at he1
   obtain ⟨rfl,rfl⟩:=he1
   obtain ⟨p0,p1,p2,p3,p4,p5,p6,p7,p8⟩:=st_cell (w:=wr) (fun j u hu=>(HT.out.low.cell (p:=⟨b1,o1+j,none⟩) hb1).trans (hx1 j u hu)) k hlt
   have hbr:b1 < wr.heap.size:=Nat.lt_of_lt_of_le hb1 HT.out.low.size
   have HF:=Lib.hid (flat_snocF rolesS hlt)
   have SR:=Lib.hid (fun W=>syn_Roles l[k] W)
   have hms:=rolesS_len l[k]
   clear hx1
   generalize l[k]=x at *
   obtain ⟨xk,⟨x1,x2⟩,xw,⟨x3,x4⟩,⟨x5,x6⟩,xv⟩:=x
   generalize rolesS ⟨xk,⟨x1,x2⟩,xw,⟨x3,x4⟩,⟨x5,x6⟩,xv⟩=ms at SR HF hms
   go_wp2_with fail
   refine (SR.out _).mono ?_
   rintro e w3 ⟨vz,rfl,hz,hb⟩
   have HT3:=Lib.hid ((HT.out.alloc _).later hb)
   have HO3:=Lib.hid (own_below (HO.out.alloc _) hb)
   obtain ⟨zo,zc,rfl⟩:=hz.form
   have HZ:=Lib.hid hz
   clear hz hb SR
   go_wp2_with (at_builtin;refine halt_ ?_)
   unfold Halt_
   refine app_row Tryz.underlying23 rl_info' rfl (by decide) (by decide) rfl _ _ rfl (w.heap.size+1) rfl HO3.out rfl HZ.out.a (rls_one _) (by omega) (by have:=HT3.out.a.2.2;omega) ?_
   intro a' cap' w4 hown' hgrow
   obtain ⟨q1,q2⟩:=push_roles HT3.out HO3.out hown' hgrow
   have HO4:=Lib.hid (show w4.ownsRow (w.heap.size+1) 78 2 (.slice a' (rs.length+ms.length) cap') (rs++ms).length ((rs++ms).flatMap Rl.cells) by rw [List.length_append];exact q1)
   have HT4:=Lib.hid q2
   clear hown' hgrow q1 q2 HO3 HT3 HZ
   go_wp2_with fail
   exact ⟨⟨k+1,rs++ms,by omega,by go_num,Lib.hid (by rw [List.length_append];omega),HT4,HO4,Lib.hid (by rw [HF.out,HE.out];simp only [List.append_assoc])⟩,by simp [intOf];omega⟩
  ·obtain ⟨ca,fa,za⟩:=HT.out.a
   have hn0:rs.length≤500+2 * 0:=by omega
   have HE0:=Lib.hid (show rs=g++h++l.flatMap rolesS by rw [HE.out,List.take_of_length_le (show l.length≤k by omega)])
   clear hrs HC hk HE
   go_wp2_with fail
   clear ca fa za
   go_loopw [3,29] (fun vo i wr => ∃ (k:Nat) (rs:List Rl),k≤qs.length∧i=.int .i64 k∧Hid (rs.length≤500+2 * k)∧Hid (OneAt w #[.slice a0 l.length c0,.slice a1 g.length c1,.slice a2 h.length c2,.slice a3 qs.length c3] wr)∧Hid (wr.ownsRow (w.heap.size+1) 78 2 vo rs.length (rs.flatMap Rl.cells))∧Hid (rs=g++h++l.flatMap rolesS++(qs.take k).flatMap rolesQ)) (fun _ i _=>qs.length - (intOf i).toNat)
   case atStart=>exact ⟨0,_,by omega,rfl,Lib.hid hn0,HT,HO,Lib.hid (by rw [HE0.out];simp)⟩
   case round =>
    clear HT HO hn0 HE0
    obtain ⟨k,rs,hk,rfl,HC,HT,HO,HE⟩:=hrel
    obtain ⟨oo,oc,rfl⟩:=own_form HO.out
    have hrs:=HC.out
    by_cases hlt:k < qs.length
    ·obtain ⟨b1,o1,e1,he1,hc1,hm1',hb1,hx1⟩:=HP.out.rq.pos (by omega)
     simp only [Value.slice.injEq,true_and] at he1
     obtain ⟨rfl,rfl⟩:=he1
     obtain ⟨p0,p1,p2,p3,p4,p5⟩:=q_cell (w:=wr) (fun j u hu=>(HT.out.low.cell (p:=⟨b1,o1+j,none⟩) hb1).trans (hx1 j u hu)) k hlt
     have hbr:b1 < wr.heap.size:=Nat.lt_of_lt_of_le hb1 HT.out.low.size
     have HF:=Lib.hid (flat_snocF rolesQ hlt)
     have SR:=Lib.hid (fun W=>query_Roles qs[k] W)
     have hms:=rolesQ_len qs[k]
     have hqo:=HP.out.lq _ (List.getElem_mem hlt)
     obtain ⟨wo,wc,hw5⟩:∃ a c,qs[k].w=.slice a ((hqo.2.2).choose).length c:=((hqo.2.2).choose_spec.1).form
     generalize (hqo.2.2).choose.length=nw at hw5
     clear hx1 hqo
     generalize qs[k]=x at *
     obtain ⟨xk,⟨x1,x2⟩,⟨x3,x4⟩,xw⟩:=x
     dsimp only at hw5
     subst hw5
     generalize rolesQ ⟨xk,⟨x1,x2⟩,⟨x3,x4⟩,.slice wo nw wc⟩=ms at SR HF hms
     go_wp2_with fail
     refine (SR.out _).mono ?_
     rintro e w3 ⟨vz,rfl,hz,hb⟩
     have HT3:=Lib.hid ((HT.out.alloc _).later hb)
     have HO3:=Lib.hid (own_below (HO.out.alloc _) hb)
     obtain ⟨zo,zc,rfl⟩:=hz.form
     have HZ:=Lib.hid hz
     clear hz hb SR
     go_wp2_with (at_builtin;refine halt_ ?_)
     unfold Halt_
     refine app_row Tryz.underlying23 rl_info' rfl (by decide) (by decide) rfl _ _ rfl (w.heap.size+1) rfl HO3.out rfl HZ.out.a (rls_one _) (by omega) (by have:=HT3.out.a.2.2;omega) ?_
     intro a' cap' w4 hown' hgrow
     obtain ⟨q1,q2⟩:=push_roles HT3.out HO3.out hown' hgrow
     have HO4:=Lib.hid (show w4.ownsRow (w.heap.size+1) 78 2 (.slice a' (rs.length+ms.length) cap') (rs++ms).length ((rs++ms).flatMap Rl.cells) by rw [List.length_append];exact q1)
     have HT4:=Lib.hid q2
     clear hown' hgrow q1 q2 HO3 HT3 HZ
     go_wp2_with fail
     exact ⟨⟨k+1,rs++ms,by omega,by go_num,Lib.hid (by rw [List.length_append];omega),HT4,HO4,Lib.hid (by rw [HF.out,HE.out];simp only [List.append_assoc])⟩,by simp [intOf];omega⟩
    ·have HA:=Lib.hid (show rs=polRoles l g h qs by rw [HE.out,List.take_of_length_le (show qs.length≤k by omega)];rfl)
     have HSL:=Lib.hid (Sl.of_own HO.out).a
     go_wp2
     go_ret
     exact ⟨_,rfl,by rw [← HA.out];exact HSL.out,by rw [← HA.out];omega,HT.out.low⟩
end
section
open Go.RowKit Go.Shelf

theorem tab_All (b:Nat) (l:List ByteArray) (w:World) (h:TabAt w b l) (hl:l.length≤100000) :
  Calls Tryz.prog 216 #[.pointer (some ⟨b,0,none⟩)] w fun e w' => ∃ v,e=.returned v∧w'.ownsRow w.heap.size 9 1 v l.length (strs l)∧Below w.heap.size w w':=by
 obtain ⟨v,h1,h2,h3⟩:=h
 have CL:=Lib.hid (str_CloneO v l w h2.a hl)
 obtain ⟨a,c,rfl⟩:=h2.form
 clear h2
 go_enter Tryz.func216,Tryz.ntmps216
 go_wp2_with fail
 refine CL.out.mono ?_
 rintro e w1 ⟨v1,rfl,ho,hb⟩
 have HO:=Lib.hid ho
 have HB:=Lib.hid hb
 clear ho hb CL h1 h3
 go_wp2
 go_ret
 exact ⟨_,rfl,HO.out,HB.out⟩
theorem query_Prins (q:Qv) (us:List ByteArray) (w:World) (h:SlA w 1 q.w us.length (strs us)) (hl:us.length≤100000) :
  Calls Tryz.prog 214 #[qv q] w fun e w' => ∃ v,e=.returned v∧SlA w' 1 v us.length (strs us)∧Below w.heap.size w w':=by
 have CL:=Lib.hid (fun W (hb:Below w.heap.size w W)=>str_CloneO q.w us W (h.below hb) hl)
 obtain ⟨a,c,hw⟩:=h.form
 obtain ⟨xk,⟨x1,x2⟩,⟨x3,x4⟩,xw⟩:=q
 dsimp only at hw CL
 subst hw
 have HB0:=Lib.hid (show Below w.heap.size w (w.alloc (.cells #[.int .i64 xk,.string x1,.string x2,.string x3,.string x4,.slice a us.length c] 83)) from (Below.refl _ _).alloc (Nat.le_refl _) _)
 clear h
 go_enter Tryz.func214,Tryz.ntmps214
 go_wp2_with fail
 refine (CL.out _ HB0.out).mono ?_
 rintro e w1 ⟨v1,rfl,ho,hb⟩
 have HO:=Lib.hid (Sl.of_own ho).a
 have HB:=Lib.hid (HB0.out.trans (hb.mono HB0.out.size))
 clear ho hb CL
 go_wp2
 go_ret
 exact ⟨_,rfl,HO.out,HB.out⟩
theorem new_congr {l m:List ByteArray} (h:∀ x,x∈l↔x∈m):newB l=newB m :=
 asc_uniqueB _ _ (new_asc l) (new_asc m) (fun x=>by rw [new_mem,new_mem];exact h x)
theorem roles_mem (l:List St) (g h:List Rl) (qs:List Qv) (x:Rl):x∈polRoles l g h qs↔x∈allRoles l g h qs:=by
 unfold polRoles allRoles
 simp only [List.mem_append]
 constructor
 ·rintro (((h1 | h1) | h1) | h1)
  ·exact .inl (.inl (.inr h1))
  ·exact .inl (.inr h1)
  ·exact .inl (.inl (.inl h1))
  ·exact .inr h1
 ·rintro (((h1 | h1) | h1) | h1)
  ·exact .inl (.inr h1)
  ·exact .inl (.inl (.inl h1))
  ·exact .inl (.inl (.inr h1))
  ·exact .inr h1
theorem prins_congr (l:List St) (g h:List Rl) (qs:List Qv) (F:Qv→List ByteArray):newB ((polRoles l g h qs).map Rl.o++l.flatMap whoS++qs.flatMap F)=newB (allPrins l g h qs F) :=
 new_congr (fun x=>by unfold allPrins;simp only [List.mem_append,List.mem_map,roles_mem])
theorem names_congr (l:List St) (g h:List Rl) (qs:List Qv):newB ((polRoles l g h qs).map Rl.n++l.flatMap viaS)=newB (allNames l g h qs) :=
 new_congr (fun x=>by unfold allNames;simp only [List.mem_append,List.mem_map,roles_mem])
theorem push_txts {wA wr w3:World} {vo:Value} {n m:Nat} {xs ms:List ByteArray} {a':Option Addr} {cap':Nat} (hb:Below wA.heap.size wA wr) (hown:wr.ownsRow wA.heap.size 9 1 vo n (strs xs))
  (h:w3.ownsRow wA.heap.size 9 1 (.slice a' (n+m) cap') (n+m) (strs xs++strs ms)) (hg:wr.grownBy w3 vo.ownBlock) :
  w3.ownsRow wA.heap.size 9 1 (.slice a' (n+m) cap') (n+m) (strs (xs++ms))∧Below wA.heap.size wA w3 :=
 ⟨by rw [strs_app];exact h,below_own hb hown hg hb.size (Nat.le_refl _)⟩
set_option maxRecDepth 100000 in
set_option maxHeartbeats 8000000 in
theorem policy_Prins (v0 v1 v2 v3:Value) (l:List St) (g h:List Rl) (qs:List Qv) (w:World) (hp:PolAt w v0 v1 v2 v3 l g h qs) (hl:l.length≤100) (hg:g.length≤100) (hh:h.length≤100) (hq:qs.length≤100) (F:Qv→List ByteArray) (hF:WhoF w qs F) :
  Calls Tryz.prog 148 #[pv v0 v1 v2 v3] w fun e w' => ∃ v,e=.returned v∧w'.ownsRow w.heap.size 9 1 v (newB (allPrins l g h qs F)).length (strs (newB (allPrins l g h qs F)))∧(newB (allPrins l g h qs F)).length≤6000∧Below w.heap.size w w':=by
 have HP:=Lib.hid hp
 have RO:=Lib.hid (fun W (hb:Below w.heap.size w W)=>policy_roles v0 v1 v2 v3 l g h qs W (hp.below hb) hl hg hh hq)
 have HFF:=Lib.hid hF
 have RES:=Lib.hid (prins_congr l g h qs F)
 obtain ⟨a0,c0,rfl⟩:=hp.rs.form
 obtain ⟨a1,c1,rfl⟩:=hp.rg.form
 obtain ⟨a2,c2,rfl⟩:=hp.rh.form
 obtain ⟨a3,c3,rfl⟩:=hp.rq.form
 have HT:=Lib.hid (show OneAt w #[.slice a0 l.length c0,.slice a1 g.length c1,.slice a2 h.length c2,.slice a3 qs.length c3] (w.alloc (.cells #[.slice a0 l.length c0,.slice a1 g.length c1,.slice a2 h.length c2,.slice a3 qs.length c3] 26)) from ⟨Blk.new w _ _,(Below.refl _ _).alloc (Nat.le_refl _) _⟩)
 clear hp hF
 generalize polRoles l g h qs=rs at RO RES
 go_enter Tryz.func148,Tryz.ntmps148
 go_wp2_with fail
 refine (RO.out _ HT.out.low).mono ?_
 rintro e w1 ⟨vr,rfl,hr,hrl,hb⟩
 have HT:=Lib.hid (HT.out.later hb)
 have HR:=Lib.hid hr
 obtain ⟨ro,rc,rfl⟩:=hr.form
 clear hb hr RO
 obtain ⟨wA,hwA⟩:∃ wA,wA=w1:=⟨_,rfl⟩
 subst hwA
 have HTA:=Lib.hid HT.out
 go_wp2_with fail
 go_loopw [3,13] (fun vo i wr => ∃ (k:Nat) (xs:List ByteArray),k≤rs.length∧i=.int .i64 k∧Hid (xs.length≤k)∧Hid (Below wA.heap.size wA wr)∧Hid (wr.ownsRow wA.heap.size 9 1 vo xs.length (strs xs))∧Hid (xs=(rs.take k).map Rl.o)) (fun _ i _=>rs.length - (intOf i).toNat)
 case atStart=>exact ⟨0,[],by omega,rfl,Lib.hid (by simp),Lib.hid (Below.refl _ _),Lib.hid (World.ownsRow_nil _ _ _ _),Lib.hid (by simp)⟩
 case round =>
  obtain ⟨k,xs,hk,rfl,HC,HB,HO,HE⟩:=hrel
  obtain ⟨oo,oc,rfl⟩:=own_form HO.out
  have hxs:=HC.out
  by_cases hlt:k < rs.length
  ·obtain ⟨b1,o1,e1,he1,hc1,hm1',hb1,hx1⟩:=HR.out.pos (by omega)
   simp only [Value.slice.injEq,true_and] at he1
   obtain ⟨rfl,rfl⟩:=he1
   obtain ⟨p0,p1⟩:=rl_cell (w:=wr) (fun j u hu=>(HB.out.cell (p:=⟨b1,o1+j,none⟩) hb1).trans (hx1 j u hu)) k hlt
   have hbr:b1 < wr.heap.size:=Nat.lt_of_lt_of_le hb1 HB.out.size
   have HF:=Lib.hid (take_snoc hlt)
   clear hx1
   generalize rs[k]=x at *
   obtain ⟨x1,x2⟩:=x
   have hown:=HO.out
   go_wp2_with (at_builtin;refine halt_ ?_)
   unfold Halt_
   refine app_own Tryz.underlying27 str_info rfl (by decide) (by decide) rfl _ _ rfl wA.heap.size rfl ((hown.alloc _).alloc _) [.string x1] rfl (heap_new2 _ _ _) rfl (str1 _) ?_ ?_ ?_
   ·omega
   ·have:=HB.out.size;simp;omega
   intro a' cap' w3 hown' hgrow
   obtain ⟨q1,q2⟩:=own_push (x:=x1) (HB.out.alloc HB.out.size _) (hown.alloc _) hown' hgrow
   have HO1:=Lib.hid q1
   have HB1:=Lib.hid q2
   clear hown hown' hgrow q1 q2
   go_wp2_with fail
   exact ⟨⟨k+1,xs++[x1],by omega,by go_num,Lib.hid (by rw [List.length_append];exact Nat.succ_le_succ hxs),HB1,HO1,Lib.hid (by rw [HF.out,List.map_append,HE.out];rfl)⟩,by simp [intOf];omega⟩
  ·have HT:=Lib.hid (HT.out.later HB.out)
   have hn0:xs.length≤1000+0:=by omega
   have HE0:=Lib.hid (show xs=rs.map Rl.o by rw [HE.out,List.take_of_length_le (show rs.length≤k by omega)])
   obtain ⟨ca,fa,za⟩:=HT.out.a
   clear hxs HC hk HE HR
   go_wp2_with fail
   clear ca fa za
   go_loopw [3,26] (fun vo i wr => ∃ (k:Nat) (xs:List ByteArray),k≤l.length∧i=.int .i64 k∧Hid (xs.length≤1000+k)∧Hid (Below wA.heap.size wA wr)∧Hid (wr.ownsRow wA.heap.size 9 1 vo xs.length (strs xs))∧Hid (xs=rs.map Rl.o++(l.take k).flatMap whoS)) (fun _ i _=>l.length - (intOf i).toNat)
   case atStart=>exact ⟨0,_,by omega,rfl,Lib.hid hn0,HB,HO,Lib.hid (by rw [HE0.out];simp)⟩
   case round =>
    clear HB HO hn0 HE0 HT
    obtain ⟨k,xs,hk,rfl,HC,HB,HO,HE⟩:=hrel
    obtain ⟨oo,oc,rfl⟩:=own_form HO.out
    have hxs:=HC.out
    by_cases hlt:k < l.length
    ·obtain ⟨b1,o1,e1,he1,hc1,hm1',hb1,hx1⟩:=HP.out.rs.pos (by omega)
     simp only [Value.slice.injEq,true_and] at he1
     obtain ⟨rfl,rfl⟩:=he1
     have hlow:=HTA.out.low.trans (HB.out.mono HTA.out.low.size)
     obtain ⟨p0,p1,p2,p3,p4,p5,p6,p7,p8⟩:=st_cell (w:=wr) (fun j u hu=>(hlow.cell (p:=⟨b1,o1+j,none⟩) hb1).trans (hx1 j u hu)) k hlt
     have hbr:b1 < wr.heap.size:=Nat.lt_of_lt_of_le hb1 hlow.size
     have HF:=Lib.hid (flat_snocF whoS hlt)
     clear hx1 hlow
     generalize l[k]=x at *
     obtain ⟨xk,⟨x1,x2⟩,xw,⟨x3,x4⟩,⟨x5,x6⟩,xv⟩:=x
     by_cases hkk:xk=1
     ·have d1:(xk == 1)=true:=by simp [hkk]
      have HK:=Lib.hid (show whoS ⟨xk,⟨x1,x2⟩,xw,⟨x3,x4⟩,⟨x5,x6⟩,xv⟩=[xw] from if_pos hkk)
      clear hkk
      have hown:=HO.out
      go_wp2_with (at_builtin;refine halt_ ?_)
      unfold Halt_
      refine app_own Tryz.underlying27 str_info rfl (by decide) (by decide) rfl _ _ rfl wA.heap.size rfl ((hown.alloc _).alloc _) [.string xw] rfl (heap_new2 _ _ _) rfl (str1 _) ?_ ?_ ?_
      ·omega
      ·have:=HB.out.size;simp;omega
      intro a' cap' w3 hown' hgrow
      obtain ⟨q1,q2⟩:=own_push (x:=xw) (HB.out.alloc HB.out.size _) (hown.alloc _) hown' hgrow
      have HO1:=Lib.hid q1
      have HB1:=Lib.hid q2
      clear hown hown' hgrow q1 q2
      go_wp2_with fail
      exact ⟨⟨k+1,xs++[xw],by omega,by go_num,Lib.hid (by rw [List.length_append];exact Nat.succ_le_succ hxs),HB1,HO1,Lib.hid (by rw [HF.out,HK.out,HE.out,List.append_assoc])⟩,by simp [intOf];omega⟩
     ·have d1:(xk == 1)=false:=by simp [hkk]
      have HK:=Lib.hid (show whoS ⟨xk,⟨x1,x2⟩,xw,⟨x3,x4⟩,⟨x5,x6⟩,xv⟩=[] from if_neg hkk)
      clear hkk
      have HO1:=Lib.hid (HO.out.alloc (.cells #[.int .i64 xk,.string x1,.string x2,.string xw,.string x3,.string x4,.string x5,.string x6,.string xv] 80))
      have HB1:=Lib.hid (HB.out.alloc HB.out.size (.cells #[.int .i64 xk,.string x1,.string x2,.string xw,.string x3,.string x4,.string x5,.string x6,.string xv] 80))
      go_wp2_with fail
      exact ⟨⟨k+1,xs,by omega,by go_num,Lib.hid (by omega),HB1,HO1,Lib.hid (by rw [HF.out,HK.out,HE.out,List.append_nil])⟩,by simp [intOf];omega⟩
    ·have HT:=Lib.hid (HTA.out.later HB.out)
     have hn0:xs.length≤1100+40 * 0:=by omega
     have HE0:=Lib.hid (show xs=rs.map Rl.o++l.flatMap whoS by rw [HE.out,List.take_of_length_le (show l.length≤k by omega)])
     obtain ⟨ca,fa,za⟩:=HT.out.a
     clear hxs HC hk HE
     go_wp2_with fail
     clear ca fa za
     go_loopw [3,42] (fun vo i wr => ∃ (k:Nat) (xs:List ByteArray),k≤qs.length∧i=.int .i64 k∧Hid (xs.length≤1100+40 * k)∧Hid (Below wA.heap.size wA wr)∧Hid (wr.ownsRow wA.heap.size 9 1 vo xs.length (strs xs))∧Hid (xs=rs.map Rl.o++l.flatMap whoS++(qs.take k).flatMap F)) (fun _ i _=>qs.length - (intOf i).toNat)
     case atStart=>exact ⟨0,_,by omega,rfl,Lib.hid hn0,HB,HO,Lib.hid (by rw [HE0.out];simp)⟩
     case round =>
      clear HB HO hn0 HE0 HT
      obtain ⟨k,xs,hk,rfl,HC,HB,HO,HE⟩:=hrel
      obtain ⟨oo,oc,rfl⟩:=own_form HO.out
      have hxs:=HC.out
      by_cases hlt:k < qs.length
      ·obtain ⟨b1,o1,e1,he1,hc1,hm1',hb1,hx1⟩:=HP.out.rq.pos (by omega)
       simp only [Value.slice.injEq,true_and] at he1
       obtain ⟨rfl,rfl⟩:=he1
       have hlow:=HTA.out.low.trans (HB.out.mono HTA.out.low.size)
       obtain ⟨p0,p1,p2,p3,p4,p5⟩:=q_cell (w:=wr) (fun j u hu=>(hlow.cell (p:=⟨b1,o1+j,none⟩) hb1).trans (hx1 j u hu)) k hlt
       have hbr:b1 < wr.heap.size:=Nat.lt_of_lt_of_le hb1 hlow.size
       have HF:=Lib.hid (flat_snocF F hlt)
       obtain ⟨hu1,hu2⟩:=HFF.out _ (List.getElem_mem hlt)
       have QP:=Lib.hid (fun W (hb:Below w.heap.size w W)=>query_Prins qs[k] (F qs[k]) W (hu1.below hb) (by omega))
       have HLW:=Lib.hid hlow
       generalize F qs[k]=us at hu1 hu2 HF QP
       obtain ⟨wo,wc,hw5⟩:=hu1.form
       clear hx1 hlow hu1
       generalize hnw:us.length=nw at hw5 hu2 QP
       have HNW:=Lib.hid hnw
       clear hnw
       generalize qs[k]=x at *
       obtain ⟨xk,⟨x1,x2⟩,⟨x3,x4⟩,xw⟩:=x
       dsimp only at hw5
       subst hw5
       go_wp2_with fail
       refine (QP.out _ (HLW.out.alloc HLW.out.size _)).mono ?_
       rintro e w3 ⟨vz,rfl,hz,hb⟩
       have HO3:=Lib.hid (own_below (HO.out.alloc _) hb)
       have HB3:=Lib.hid ((HB.out.alloc HB.out.size _).trans (hb.mono (HB.out.alloc HB.out.size _).size))
       obtain ⟨zo,zc,rfl⟩:=hz.form
       have HZ:=Lib.hid hz
       clear hz hb QP HLW
       go_wp2_with (at_builtin;refine halt_ ?_)
       unfold Halt_
       refine app_row Tryz.underlying27 str_info rfl (by decide) (by decide) rfl _ _ rfl wA.heap.size rfl HO3.out rfl HZ.out (strs_one _) (by omega) HB3.out.size ?_
       intro a' cap' w4 hown' hgrow
       obtain ⟨q1,q2⟩:=push_txts HB3.out HO3.out hown' hgrow
       have HO4:=Lib.hid (show w4.ownsRow wA.heap.size 9 1 (.slice a' (xs.length+nw) cap') (xs++us).length (strs (xs++us)) by rw [List.length_append,HNW.out];exact q1)
       have HB4:=Lib.hid q2
       clear hown' hgrow q1 q2 HO3 HB3 HZ
       go_wp2_with fail
       exact ⟨⟨k+1,xs++us,by omega,by go_num,Lib.hid (by rw [List.length_append,HNW.out];omega),HB4,HO4,Lib.hid (by rw [HF.out,HE.out];simp only [List.append_assoc])⟩,by simp [intOf];omega⟩
      ·have HXS:=Lib.hid (show xs=rs.map Rl.o++l.flatMap whoS++qs.flatMap F by rw [HE.out,List.take_of_length_le (show qs.length≤k by omega)])
       have hxl:xs.length≤6000:=by omega
       have NN:=Lib.hid (names_New _ xs wr (Sl.of_own HO.out).a (by omega))
       rw [← HXS.out] at RES
       have hnl:=new_len xs
       have HLW:=Lib.hid (HTA.out.low.trans (HB.out.mono HTA.out.low.size))
       clear HC hk HE HO HXS
       go_wp2_with fail
       refine NN.out.mono ?_
       rintro e w4 ⟨b,rfl,ht,_,hb⟩
       have AL:=Lib.hid (tab_All b (newB xs) w4 ht (by omega))
       have HLW:=Lib.hid (HLW.out.trans (hb.mono HLW.out.size))
       clear ht hb NN
       go_wp2_with fail
       refine AL.out.mono ?_
       rintro e w5 ⟨v5,rfl,ho,hb⟩
       have HO5:=Lib.hid (own_base ho HLW.out.size)
       have HLW:=Lib.hid (HLW.out.trans (hb.mono HLW.out.size))
       clear ho hb AL
       go_wp2
       go_ret
       exact ⟨_,rfl,by rw [← RES.out];exact HO5.out,by rw [← RES.out];omega,HLW.out⟩
set_option maxRecDepth 100000 in
set_option maxHeartbeats 8000000 in
theorem policy_Names (v0 v1 v2 v3:Value) (l:List St) (g h:List Rl) (qs:List Qv) (w:World) (hp:PolAt w v0 v1 v2 v3 l g h qs) (hl:l.length≤100) (hg:g.length≤100) (hh:h.length≤100) (hq:qs.length≤100) :
  Calls Tryz.prog 149 #[pv v0 v1 v2 v3] w fun e w' => ∃ v,e=.returned v∧w'.ownsRow w.heap.size 9 1 v (newB (allNames l g h qs)).length (strs (newB (allNames l g h qs)))∧(newB (allNames l g h qs)).length≤6000∧Below w.heap.size w w':=by
 have HP:=Lib.hid hp
 have RO:=Lib.hid (fun W (hb:Below w.heap.size w W)=>policy_roles v0 v1 v2 v3 l g h qs W (hp.below hb) hl hg hh hq)
 skip
 have RES:=Lib.hid (names_congr l g h qs)
 obtain ⟨a0,c0,rfl⟩:=hp.rs.form
 obtain ⟨a1,c1,rfl⟩:=hp.rg.form
 obtain ⟨a2,c2,rfl⟩:=hp.rh.form
 obtain ⟨a3,c3,rfl⟩:=hp.rq.form
 have HT:=Lib.hid (show OneAt w #[.slice a0 l.length c0,.slice a1 g.length c1,.slice a2 h.length c2,.slice a3 qs.length c3] (w.alloc (.cells #[.slice a0 l.length c0,.slice a1 g.length c1,.slice a2 h.length c2,.slice a3 qs.length c3] 26)) from ⟨Blk.new w _ _,(Below.refl _ _).alloc (Nat.le_refl _) _⟩)
 clear hp
 generalize polRoles l g h qs=rs at RO RES
 go_enter Tryz.func149,Tryz.ntmps149
 go_wp2_with fail
 refine (RO.out _ HT.out.low).mono ?_
 rintro e w1 ⟨vr,rfl,hr,hrl,hb⟩
 have HT:=Lib.hid (HT.out.later hb)
 have HR:=Lib.hid hr
 obtain ⟨ro,rc,rfl⟩:=hr.form
 clear hb hr RO
 obtain ⟨wA,hwA⟩:∃ wA,wA=w1:=⟨_,rfl⟩
 subst hwA
 have HTA:=Lib.hid HT.out
 go_wp2_with fail
 go_loopw [3,11] (fun vo i wr => ∃ (k:Nat) (xs:List ByteArray),k≤rs.length∧i=.int .i64 k∧Hid (xs.length≤k)∧Hid (Below wA.heap.size wA wr)∧Hid (wr.ownsRow wA.heap.size 9 1 vo xs.length (strs xs))∧Hid (xs=(rs.take k).map Rl.n)) (fun _ i _=>rs.length - (intOf i).toNat)
 case atStart=>exact ⟨0,[],by omega,rfl,Lib.hid (by simp),Lib.hid (Below.refl _ _),Lib.hid (World.ownsRow_nil _ _ _ _),Lib.hid (by simp)⟩
 case round =>
  obtain ⟨k,xs,hk,rfl,HC,HB,HO,HE⟩:=hrel
  obtain ⟨oo,oc,rfl⟩:=own_form HO.out
  have hxs:=HC.out
  by_cases hlt:k < rs.length
  ·obtain ⟨b1,o1,e1,he1,hc1,hm1',hb1,hx1⟩:=HR.out.pos (by omega)
   simp only [Value.slice.injEq,true_and] at he1
   obtain ⟨rfl,rfl⟩:=he1
   obtain ⟨p0,p1⟩:=rl_cell (w:=wr) (fun j u hu=>(HB.out.cell (p:=⟨b1,o1+j,none⟩) hb1).trans (hx1 j u hu)) k hlt
   have hbr:b1 < wr.heap.size:=Nat.lt_of_lt_of_le hb1 HB.out.size
   have HF:=Lib.hid (take_snoc hlt)
   clear hx1
   generalize rs[k]=x at *
   obtain ⟨x1,x2⟩:=x
   have hown:=HO.out
   go_wp2_with (at_builtin;refine halt_ ?_)
   unfold Halt_
   refine app_own Tryz.underlying27 str_info rfl (by decide) (by decide) rfl _ _ rfl wA.heap.size rfl ((hown.alloc _).alloc _) [.string x2] rfl (heap_new2 _ _ _) rfl (str1 _) ?_ ?_ ?_
   ·omega
   ·have:=HB.out.size;simp;omega
   intro a' cap' w3 hown' hgrow
   obtain ⟨q1,q2⟩:=own_push (x:=x2) (HB.out.alloc HB.out.size _) (hown.alloc _) hown' hgrow
   have HO1:=Lib.hid q1
   have HB1:=Lib.hid q2
   clear hown hown' hgrow q1 q2
   go_wp2_with fail
   exact ⟨⟨k+1,xs++[x2],by omega,by go_num,Lib.hid (by rw [List.length_append];exact Nat.succ_le_succ hxs),HB1,HO1,Lib.hid (by rw [HF.out,List.map_append,HE.out];rfl)⟩,by simp [intOf];omega⟩
  ·have HT:=Lib.hid (HT.out.later HB.out)
   have hn0:xs.length≤1000+0:=by omega
   have HE0:=Lib.hid (show xs=rs.map Rl.n by rw [HE.out,List.take_of_length_le (show rs.length≤k by omega)])
   obtain ⟨ca,fa,za⟩:=HT.out.a
   clear hxs HC hk HE HR
   go_wp2_with fail
   clear ca fa za
   go_loopw [3,24] (fun vo i wr => ∃ (k:Nat) (xs:List ByteArray),k≤l.length∧i=.int .i64 k∧Hid (xs.length≤1000+k)∧Hid (Below wA.heap.size wA wr)∧Hid (wr.ownsRow wA.heap.size 9 1 vo xs.length (strs xs))∧Hid (xs=rs.map Rl.n++(l.take k).flatMap viaS)) (fun _ i _=>l.length - (intOf i).toNat)
   case atStart=>exact ⟨0,_,by omega,rfl,Lib.hid hn0,HB,HO,Lib.hid (by rw [HE0.out];simp)⟩
   case round =>
    clear HB HO hn0 HE0 HT
    obtain ⟨k,xs,hk,rfl,HC,HB,HO,HE⟩:=hrel
    obtain ⟨oo,oc,rfl⟩:=own_form HO.out
    have hxs:=HC.out
    by_cases hlt:k < l.length
    ·obtain ⟨b1,o1,e1,he1,hc1,hm1',hb1,hx1⟩:=HP.out.rs.pos (by omega)
     simp only [Value.slice.injEq,true_and] at he1
     obtain ⟨rfl,rfl⟩:=he1
     have hlow:=HTA.out.low.trans (HB.out.mono HTA.out.low.size)
     obtain ⟨p0,p1,p2,p3,p4,p5,p6,p7,p8⟩:=st_cell (w:=wr) (fun j u hu=>(hlow.cell (p:=⟨b1,o1+j,none⟩) hb1).trans (hx1 j u hu)) k hlt
     have hbr:b1 < wr.heap.size:=Nat.lt_of_lt_of_le hb1 hlow.size
     have HF:=Lib.hid (flat_snocF viaS hlt)
     clear hx1 hlow
     generalize l[k]=x at *
     obtain ⟨xk,⟨x1,x2⟩,xw,⟨x3,x4⟩,⟨x5,x6⟩,xv⟩:=x
     by_cases hkk:xk=3
     ·have d1:(xk == 3)=true:=by simp [hkk]
      have HK:=Lib.hid (show viaS ⟨xk,⟨x1,x2⟩,xw,⟨x3,x4⟩,⟨x5,x6⟩,xv⟩=[xv] from if_pos hkk)
      clear hkk
      have hown:=HO.out
      go_wp2_with (at_builtin;refine halt_ ?_)
      unfold Halt_
      refine app_own Tryz.underlying27 str_info rfl (by decide) (by decide) rfl _ _ rfl wA.heap.size rfl ((hown.alloc _).alloc _) [.string xv] rfl (heap_new2 _ _ _) rfl (str1 _) ?_ ?_ ?_
      ·omega
      ·have:=HB.out.size;simp;omega
      intro a' cap' w3 hown' hgrow
      obtain ⟨q1,q2⟩:=own_push (x:=xv) (HB.out.alloc HB.out.size _) (hown.alloc _) hown' hgrow
      have HO1:=Lib.hid q1
      have HB1:=Lib.hid q2
      clear hown hown' hgrow q1 q2
      go_wp2_with fail
      exact ⟨⟨k+1,xs++[xv],by omega,by go_num,Lib.hid (by rw [List.length_append];exact Nat.succ_le_succ hxs),HB1,HO1,Lib.hid (by rw [HF.out,HK.out,HE.out,List.append_assoc])⟩,by simp [intOf];omega⟩
     ·have d1:(xk == 3)=false:=by simp [hkk]
      have HK:=Lib.hid (show viaS ⟨xk,⟨x1,x2⟩,xw,⟨x3,x4⟩,⟨x5,x6⟩,xv⟩=[] from if_neg hkk)
      clear hkk
      have HO1:=Lib.hid (HO.out.alloc (.cells #[.int .i64 xk,.string x1,.string x2,.string xw,.string x3,.string x4,.string x5,.string x6,.string xv] 80))
      have HB1:=Lib.hid (HB.out.alloc HB.out.size (.cells #[.int .i64 xk,.string x1,.string x2,.string xw,.string x3,.string x4,.string x5,.string x6,.string xv] 80))
      go_wp2_with fail
      exact ⟨⟨k+1,xs,by omega,by go_num,Lib.hid (by omega),HB1,HO1,Lib.hid (by rw [HF.out,HK.out,HE.out,List.append_nil])⟩,by simp [intOf];omega⟩
    ·have HXS:=Lib.hid (show xs=rs.map Rl.n++l.flatMap viaS by rw [HE.out,List.take_of_length_le (show l.length≤k by omega)])
     have hxl:xs.length≤6000:=by omega
     have NN:=Lib.hid (names_New _ xs wr (Sl.of_own HO.out).a (by omega))
     rw [← HXS.out] at RES
     have hnl:=new_len xs
     have HLW:=Lib.hid (HTA.out.low.trans (HB.out.mono HTA.out.low.size))
     clear HC hk HE HO HXS
     go_wp2_with fail
     refine NN.out.mono ?_
     rintro e w4 ⟨b,rfl,ht,_,hb⟩
     have AL:=Lib.hid (tab_All b (newB xs) w4 ht (by omega))
     have HLW:=Lib.hid (HLW.out.trans (hb.mono HLW.out.size))
     clear ht hb NN
     go_wp2_with fail
     refine AL.out.mono ?_
     rintro e w5 ⟨v5,rfl,ho,hb⟩
     have HO5:=Lib.hid (own_base ho HLW.out.size)
     have HLW:=Lib.hid (HLW.out.trans (hb.mono HLW.out.size))
     clear ho hb AL
     go_wp2
     go_ret
     exact ⟨_,rfl,by rw [← RES.out];exact HO5.out,by rw [← RES.out];omega,HLW.out⟩
end
section
open Go.RowKit Go.Shelf

theorem eqRl_selfR (x:Rl):eqRl x x=true:=decide_eq_true rfl
theorem hasR_mem (l:List Rl) (x:Rl):hasR l x=true↔x∈l:=by
 unfold hasR;rw [List.any_eq_true]
 constructor
 ·rintro ⟨y,hy,e⟩;rw [← of_decide_eq_true e];exact hy
 ·intro h;exact ⟨x,h,eqRl_selfR x⟩
theorem lt_trans'R {x y z:Rl} (h:cmpR x y < 0) (h':cmpR y z < 0):cmpR x z < 0:=by
 obtain ⟨a,b⟩:=wcmp_rl.le x y z (by omega) (by omega)
 have:¬ cmpR x z=0:=fun e=>by have:=(b e).1;omega
 omega
theorem lt_irrefl'R (x:Rl):¬ cmpR x x < 0:=by have:=(cmpR_zero x x).2 rfl;omega
def AscR (l:List Rl):Prop:=l.Pairwise fun x y=>cmpR x y < 0
theorem asc_uniqueR:∀ (l m:List Rl),AscR l→AscR m→(∀ x,x∈l↔x∈m)→l=m
 | [],[],_,_,_=>rfl
 | [],y :: m,_,_,h=>absurd ((h y).2 (by simp)) (by simp)
 | x :: l,[],_,_,h=>absurd ((h x).1 (by simp)) (by simp)
 | x :: l,y :: m,hl,hm,h=>by
  have hl':=List.pairwise_cons.1 hl
  have hm':=List.pairwise_cons.1 hm
  have e:x=y:=by
   rcases List.mem_cons.1 ((h x).1 (by simp)) with e | e
   ·exact e
   ·rcases List.mem_cons.1 ((h y).2 (by simp)) with e' | e'
    ·exact e'.symm
    ·exact absurd (lt_trans'R (hm'.1 x e) (hl'.1 y e')) (lt_irrefl'R y)
  subst e
  refine congrArg (x :: ·) (asc_uniqueR l m hl'.2 hm'.2 fun z=>?_)
  constructor
  ·intro hz
   rcases List.mem_cons.1 ((h z).1 (by simp [hz])) with e | e
   ·subst e;exact absurd (hl'.1 z hz) (lt_irrefl'R z)
   ·exact e
  ·intro hz
   rcases List.mem_cons.1 ((h z).2 (by simp [hz])) with e | e
   ·subst e;exact absurd (hm'.1 z hz) (lt_irrefl'R z)
   ·exact e
def dedupR:List Rl→List Rl
 | []=>[]
 | [x]=>[x]
 | x :: y :: r=>if x=y then dedupR (y :: r) else x :: dedupR (y :: r)
theorem dedup_memR:∀ (l:List Rl) (z:Rl),z∈dedupR l↔z∈l
 | [],z=>by simp [dedupR]
 | [x],z=>by simp [dedupR]
 | x :: y :: r,z=>by
  have ih:=dedup_memR (y :: r) z
  unfold dedupR
  by_cases e:x=y
  ·rw [if_pos e,ih,e];simp
  ·rw [if_neg e,List.mem_cons,ih,List.mem_cons (b:=x)]
theorem dedup_ascR:∀ (l:List Rl),(l.Pairwise fun x y=>cmpR x y≤0)→AscR (dedupR l)
 | [],_=>List.Pairwise.nil
 | [x],_=>by simp [dedupR,AscR]
 | x :: y :: r,h=>by
  have h':=List.pairwise_cons.1 h
  have ih:=dedup_ascR (y :: r) h'.2
  unfold dedupR
  by_cases e:x=y
  ·rw [if_pos e];exact ih
  ·rw [if_neg e]
   refine List.pairwise_cons.2 ⟨fun z hz=>?_,ih⟩
   have hxy:cmpR x y < 0:=by
    have:=h'.1 y (by simp)
    have h0:¬ cmpR x y=0:=fun e'=>e ((cmpR_zero x y).1 e')
    omega
   have hz':=(dedup_memR (y :: r) z).1 hz
   rcases List.mem_cons.1 hz' with rfl | hz'
   ·exact hxy
   ·have hyz:=(List.pairwise_cons.1 h'.2).1 z hz'
    obtain ⟨a,b⟩:=wcmp_rl.le x y z (by omega) hyz
    have:¬ cmpR x z=0:=fun e=>by have:=(b e).1;omega
    omega
theorem insS_memR (l:List Rl) (x z:Rl):z∈insSR l x↔z∈l∨z=x:=by
 unfold insSR
 by_cases h:hasR l x=true
 ·rw [if_pos h]
  exact ⟨.inl,fun h'=>h'.elim id (fun e=>e ▸ (hasR_mem l x).1 h)⟩
 ·rw [if_neg h]
  unfold insAtR
  rw [List.mem_append,List.mem_cons]
  have:=List.take_append_drop (posSR l x) l
  constructor
  ·rintro (h | h | h)
   ·exact .inl (List.mem_of_mem_take h)
   ·exact .inr h
   ·exact .inl (List.mem_of_mem_drop h)
  ·rintro (h | h)
   ·rw [← this] at h
    rcases List.mem_append.1 h with h | h
    ·exact .inl h
    ·exact .inr (.inr h)
   ·exact .inr (.inl h)
theorem pos_takeR:∀ (l:List Rl) (x z:Rl),z∈l.take (posSR l x)→cmpR z x < 0
 | [],_,_,h=>by simp at h
 | a :: r,x,z,h=>by
  unfold posSR at h
  by_cases ha:cmpR a x < 0
  ·rw [if_pos ha] at h
   rcases List.mem_cons.1 (by simpa using h) with rfl | h
   ·exact ha
   ·exact pos_takeR r x z h
  ·rw [if_neg ha] at h;simp at h
theorem pos_dropR:∀ (l:List Rl) (x z:Rl),AscR l→z∈l.drop (posSR l x)→¬ cmpR z x < 0
 | [],_,_,_,h=>by simp at h
 | a :: r,x,z,hl,h=>by
  unfold posSR at h
  by_cases ha:cmpR a x < 0
  ·rw [if_pos ha] at h
   exact pos_dropR r x z (List.pairwise_cons.1 hl).2 (by simpa using h)
  ·rw [if_neg ha] at h
   rcases List.mem_cons.1 (by simpa using h) with rfl | h
   ·exact ha
   ·have:=(List.pairwise_cons.1 hl).1 z h
    intro hz;exact ha (lt_trans'R this hz)
theorem insS_ascR {l:List Rl} (h:AscR l) (x:Rl):AscR (insSR l x):=by
 unfold insSR
 by_cases hx:hasR l x=true
 ·rw [if_pos hx];exact h
 ·rw [if_neg hx]
  have hn:¬ x∈l:=fun h'=>hx ((hasR_mem l x).2 h')
  have h1:AscR (l.take (posSR l x)):=h.sublist (List.take_sublist _ _)
  have h2:AscR (l.drop (posSR l x)):=h.sublist (List.drop_sublist _ _)
  have h3:∀ a∈l.take (posSR l x),∀ b∈l.drop (posSR l x),cmpR a b < 0:=by
   have:=h
   rw [AscR,← List.take_append_drop (posSR l x) l,List.pairwise_append] at this
   exact this.2.2
  unfold insAtR AscR
  rw [List.pairwise_append,List.pairwise_cons]
  refine ⟨h1,⟨fun b hb=>?_,h2⟩,fun a ha b hb=>?_⟩
  ·have h4:=pos_dropR l x b h hb
   have h5:¬ cmpR b x=0:=fun e=>hn ((cmpR_zero b x).1 e ▸ List.mem_of_mem_drop hb)
   have:=wcmp_rl.neg b x
   omega
  ·rcases List.mem_cons.1 hb with rfl | hb
   ·exact pos_takeR l b a ha
   ·exact h3 a ha b hb
theorem insAll_ascR:∀ (l acc:List Rl),AscR acc→AscR (insAllR acc l)
 | [],_,h=>h
 | x :: l,_,h=>insAll_ascR l _ (insS_ascR h x)
theorem insAll_memR:∀ (l acc:List Rl) (z:Rl),z∈insAllR acc l↔z∈acc∨z∈l
 | [],acc,z=>by simp [insAllR]
 | x :: l,acc,z=>by
  unfold insAllR
  rw [insAll_memR l,insS_memR,List.mem_cons,or_assoc]
def ordR (l:List Rl):List Rl:=insAllR [] l
theorem ord_ascR (l:List Rl):AscR (ordR l):=insAll_ascR l [] List.Pairwise.nil
theorem ord_memR (l:List Rl) (x:Rl):x∈ordR l↔x∈l:=by unfold ordR;rw [insAll_memR];simp
theorem asc_ordR {l:List Rl} (h:AscR l):ordR l=l:=asc_uniqueR _ _ (ord_ascR _) h (ord_memR l)
theorem insAll_lenR:∀ (l acc:List Rl),(insAllR acc l).length≤acc.length+l.length
 | [],acc=>Nat.le_refl _
 | x :: r,acc=>by
  have h1:=insAll_lenR r (insSR acc x)
  have h2:=insS_lenR acc x
  show (insAllR (insSR acc x) r).length≤acc.length+(r.length+1)
  omega
end
section
open Go.RowKit Go.Shelf

theorem frozen_sets {b i:Nat}:∀ (vs:List Value) (o:Nat) (w':World),w'.frozen? ⟨b,i,none⟩=false→(w'.setCells b o vs).frozen? ⟨b,i,none⟩=false
 | [],_,_,h=>h
 | v :: vs,o,w',h=>by
  rw [World.setCells]
  exact frozen_sets vs (o+1) _ (by simpa using h)

theorem dedup_snocR:∀ (p:List Rl) (y z:Rl),dedupR (p++[y,z])=if y=z then dedupR (p++[y]) else dedupR (p++[y])++[z]
 | [],y,z=>by
  show dedupR [y,z]=if y=z then dedupR [y] else dedupR [y]++[z]
  unfold dedupR
  by_cases h:y=z
  ·rw [if_pos h,if_pos h,h];rfl
  ·rw [if_neg h,if_neg h];rfl
 | [x],y,z=>by
  have ih:=dedup_snocR [] y z
  simp only [List.nil_append] at ih
  show dedupR (x :: y :: [z])=if y=z then dedupR (x :: y :: []) else dedupR (x :: y :: [])++[z]
  have e1:dedupR (x :: y :: [z])=if x=y then dedupR [y,z] else x :: dedupR [y,z]:=rfl
  have e2:dedupR (x :: y :: [])=if x=y then dedupR [y] else x :: dedupR [y]:=rfl
  rw [e1,e2,ih]
  by_cases h1:x=y <;> by_cases h2:y=z <;> simp [h1,h2]
 | x :: x' :: p,y,z=>by
  have ih:=dedup_snocR (x' :: p) y z
  simp only [List.cons_append] at ih ⊢
  have e1:∀ r,dedupR (x :: x' :: r)=if x=x' then dedupR (x' :: r) else x :: dedupR (x' :: r):=fun _=>rfl
  rw [e1,e1,ih]
  by_cases h1:x=x' <;> by_cases h2:y=z <;> simp [h1,h2]
theorem take_twoR (l:List Rl) (m:Nat) (h:m+1 < l.length):l.take (m+2)=l.take m++[l[m],l[m+1]]:=by
 rw [List.take_succ_eq_append_getElem h,List.take_succ_eq_append_getElem (by omega),List.append_assoc];rfl
theorem dedup_sameR (l:List Rl) (m:Nat) (h:m+1 < l.length) (e:l[m]=l[m+1]):dedupR (l.take (m+2))=dedupR (l.take (m+1)):=by
 rw [take_twoR l m h,dedup_snocR,if_pos e,List.take_succ_eq_append_getElem (by omega)]
theorem dedup_moreR (l:List Rl) (m:Nat) (h:m+1 < l.length) (e:¬ l[m]=l[m+1]):dedupR (l.take (m+2))=dedupR (l.take (m+1))++[l[m+1]]:=by
 rw [take_twoR l m h,dedup_snocR,if_neg e,List.take_succ_eq_append_getElem (by omega)]
theorem dedup_lenR:∀ (l:List Rl),(dedupR l).length≤l.length
 | []=>Nat.le_refl _
 | [_]=>Nat.le_refl _
 | x :: y :: r=>by
  have ih:=dedup_lenR (y :: r)
  unfold dedupR
  split <;> simp at ih ⊢ <;> omega
theorem dedup_oneR (l:List Rl) (h:0 < l.length):dedupR (l.take 1)=l.take 1:=by
 match l,h with
 | x :: r,_=>rfl
structure HalfR (w:World) (b o:Nat) (l:List Rl) (m k:Nat):Prop where
 len:(dedupR (l.take m)).length=k
 low:∀ i (hi:i < (dedupR (l.take m)).length),Two w b (o+i * 2) (dedupR (l.take m))[i]
 high:∀ i (hi:i < l.length),k≤i→Two w b (o+i * 2) l[i]
def W2 (w:World) (b a:Nat) (s:Rl):World:=(w.setCell ⟨b,a,none⟩ (.string s.o)).setCell ⟨b,a+1,none⟩ (.string s.n)
theorem w2_far (w:World) (b a i:Nat) (s:Rl) (h:i < a∨a+2≤i):(W2 w b a s).cell? ⟨b,i,none⟩=w.cell? ⟨b,i,none⟩:=by
 unfold W2
 rw [set_far _ _ _ _ _ (by omega),set_far _ _ _ _ _ (by omega)]
theorem w2_new {w:World} {b a:Nat} (s s0:Rl) (h:Two w b a s0):Two (W2 w b a s) b a s:=by
 obtain ⟨h0,h1⟩:=h
 refine ⟨?_,?_⟩
 ·unfold W2;rw [set_far _ _ _ _ _ (by omega)];exact World.cell?_setCell_same _ _ _ (u:=_) h0
 ·unfold W2;refine World.cell?_setCell_same _ _ _ (u:=.string s0.n) ?_;rw [set_far _ _ _ _ _ (by omega)];exact h1
theorem Two.drop1 {w w':World} {b x:Nat} {s:Rl} (h:Two w b x s) (hw:∀ i,x≤i→i < x+2→w'.cell? ⟨b,i,none⟩=w.cell? ⟨b,i,none⟩):Two w' b x s:=by
 obtain ⟨h0,h1⟩:=h
 exact ⟨(hw _ (by omega) (by omega)).trans h0,(hw _ (by omega) (by omega)).trans h1⟩
theorem HalfR.put {w:World} {b o m kk:Nat} {l:List Rl} (h:HalfR w b o l (m+1) kk) (hm:m+1 < l.length) (hk:kk≤m) (e:¬ l[m]=l[m+1]):HalfR (W2 w b (o+kk * 2) l[m+1]) b o l (m+2) (kk+1):=by
 have hd:=dedup_moreR l m hm e
 refine ⟨by rw [hd,List.length_append,h.len];rfl,fun i hi=>?_,fun i hi hik=>?_⟩
 ·rw [hd,List.length_append,h.len] at hi
  simp only [List.length_cons,List.length_nil] at hi
  by_cases hik:i < kk
  ·have e1:(dedupR (l.take (m+2)))[i]'(by rw [hd,List.length_append,h.len];simp;omega)=(dedupR (l.take (m+1)))[i]'(by rw [h.len];exact hik):=by
    simp only [hd];rw [List.getElem_append_left]
   rw [e1]
   exact (h.low i (by rw [h.len];exact hik)).drop1 (fun j _ _=>w2_far _ _ _ _ _ (by omega))
  ·obtain rfl:i=kk:=by omega
   have e1:(dedupR (l.take (m+2)))[i]'(by rw [hd,List.length_append,h.len];simp)=l[m+1]:=by
    simp only [hd];rw [List.getElem_append_right (by rw [h.len];exact Nat.le_refl _)];simp [h.len]
   rw [e1]
   exact w2_new _ _ (h.high i (by omega) (Nat.le_refl _))
 ·exact (h.high i hi (by omega)).drop1 (fun j _ _=>w2_far _ _ _ _ _ (by omega))
theorem HalfR.same {w:World} {b o m kk:Nat} {l:List Rl} (h:HalfR w b o l (m+1) kk) (hm:m+1 < l.length) (e:l[m]=l[m+1]):HalfR w b o l (m+2) kk:=by
 have hd:=dedup_sameR l m hm e
 exact ⟨by rw [hd];exact h.len,fun i hi=>by simp only [hd];exact h.low i (by rw [← hd];exact hi),h.high⟩
theorem HalfR.drewN {w:World} {b o m k:Nat} {l:List Rl} (h:HalfR w b o l m k) (n:Nat):HalfR (w.drewN n) b o l m k:=⟨h.len,h.low,h.high⟩
theorem grown_w9R {w w':World} {b a:Nat} {s:Rl} (h:w.grownBy w' (some b)):w.grownBy (W2 w' b a s) (some b):=by
 unfold W2
 exact grown_set (grown_set h)
theorem sh_w9R {w w':World} {b a:Nat} {s:Rl} (h:ShK w w' b):ShK w (W2 w' b a s) b:=by
 unfold W2
 exact sh_set (sh_set h)
theorem run_clear2R {P:Program} (w:World) (t e ty:TypeId) (z:Value) (ht:P.underlying t=some (.slice e)) (hv:∀ w,(zeroValue e).run P w=.ok z w) (b o n c:Nat) (hn:0 < n) (hs:z.cells.size=2)
  (hc:∀ j,j < n * 2→(w.cell? ⟨b,o+j,none⟩).isSome=true) (hf:∀ j,w.frozen? ⟨b,o+j,none⟩=false) (h1:∀ v∈(Builtin.zeroCells z.cells n).toList,v.oneCell'=true) :
  (Builtin.clear_ #[t] ty #[.slice (some ⟨b,o,none⟩) n c]).run P w=.ok (.tuple #[]) (w.setCells b o (Builtin.zeroCells z.cells n).toList):=by
 have hl:(Builtin.zeroCells z.cells n).toList.length=n * 2:=by simp [Builtin.zeroCells,hs]
 have hst:=run_storeCells_cells (P:=P) b o (Builtin.zeroCells z.cells n).toList 0 w (by intro j hj;rw [hl] at hj;simpa using hc j hj) (by intro j _;simp [hf]) h1
 simp only [Nat.add_zero] at hst
 obtain ⟨m,rfl⟩:∃ m,n=m+1:=⟨n - 1,by omega⟩
 simp [Builtin.clear_,run_underlying ht,hv,hst]
abbrev zeroRl:Value:=.agg #[.string ByteArray.empty,.string ByteArray.empty]
theorem zero_oneR (n:Nat):∀ v∈(Builtin.zeroCells zeroRl.cells n).toList,v.oneCell'=true:=by
 intro v hv
 simp only [Builtin.zeroCells,Array.toList_map,List.mem_map] at hv
 obtain ⟨i,_,rfl⟩:=hv
 have h9:i % zeroRl.cells.size < 2:=Nat.mod_lt _ (by decide)
 generalize i % zeroRl.cells.size=q at h9
 match q,h9 with
 | 0,_=>rfl
 | 1,_=>rfl
 | n+2,h=>omega
theorem two_someR {w:World} {b x:Nat} {s:Rl} (h:Two w b x s) (f:Nat) (hf:f < 2):(w.cell? ⟨b,x+f,none⟩).isSome=true:=by
 obtain ⟨h0,h1⟩:=h
 match f,hf with
 | 0,_=>rw [Nat.add_zero,h0];rfl
 | 1,_=>rw [h1];rfl
theorem HalfR.all {w:World} {b o m k:Nat} {l:List Rl} (h:HalfR w b o l m k) (hm:m=l.length):(dedupR l).length=k∧∀ i (hi:i < (dedupR l).length),Two w b (o+i * 2) (dedupR l)[i]:=by
 subst hm
 obtain ⟨h1,h2,_⟩:=h
 simp only [List.take_of_length_le (Nat.le_refl _)] at h1 h2
 exact ⟨h1,h2⟩
theorem two_cellsR {w:World} {b o:Nat} {l:List Rl} (h:∀ i (hi:i < l.length),Two w b (o+i * 2) l[i]) (j:Nat) (u:Value) (hu:(l.flatMap Rl.cells)[j]? = some u):w.cell? ⟨b,o+j,none⟩=some u:=by
 have hj:j < l.length * 2:=by rw [← flat_len Rl.cells 2 Rl.cells_len l];exact (List.getElem?_eq_some_iff.1 hu).1
 have hi:j / 2 < l.length:=by omega
 have hf:j % 2 < 2:=Nat.mod_lt _ (by decide)
 have e:j=j / 2 * 2+j % 2:=by omega
 rw [e,flat_get Rl.cells 2 Rl.cells_len l (j / 2) (j % 2) hf _ (List.getElem?_eq_getElem hi)] at hu
 obtain ⟨h0,h1⟩:=h (j / 2) hi
 rw [show o+j=o+j / 2 * 2+j % 2 by omega]
 generalize j % 2=f at hf hu
 match f,hf with
 | 0,_=>rw [Nat.add_zero,h0];exact hu
 | 1,_=>rw [h1];exact hu
theorem high_someR {w:World} {b o m k:Nat} {l:List Rl} (h:HalfR w b o l m k) (hk:k≤l.length):∀ j,j < (l.length - k) * 2→(w.cell? ⟨b,o+k * 2+j,none⟩).isSome=true:=by
 intro j hj
 have:=two_someR (h.high (k+j / 2) (by omega) (by omega)) (j % 2) (Nat.mod_lt _ (by decide))
 rwa [show o+(k+j / 2) * 2+j % 2=o+k * 2+j by omega] at this
set_option maxRecDepth 100000 in
theorem rl_zero (w:World):(zeroValue 78).run Tryz.prog w=.ok zeroRl w:=by rfl
set_option maxRecDepth 100000 in
set_option maxHeartbeats 8000000 in
theorem rl_Compact (b o cap:Nat) (l:List Rl) (w:World) (hl:l.length≤1000) (hc:l.length≤cap) (hcm:cap≤9223372036854775807) (hb:b < w.heap.size)
  (hx:∀ j u,(l.flatMap Rl.cells)[j]? = some u→w.cell? ⟨b,o+j,none⟩=some u) (hf:∀ i,w.frozen? ⟨b,i,none⟩=false) :
  Calls Tryz.prog 189 #[.slice (some ⟨b,o,none⟩) l.length cap] w fun e w' =>
   e=.returned (.slice (some ⟨b,o,none⟩) (dedupR l).length cap)∧(∀ j u,((dedupR l).flatMap Rl.cells)[j]? = some u→w'.cell? ⟨b,o+j,none⟩=some u)∧w.grownBy w' (some b)∧(∀ i,w'.frozen? ⟨b,i,none⟩=false)∧ShK w w' b:=by
 have HFF:=Lib.hid hf
 have hEq:=role_eql
 have hNe:=role_neq
 have HX:=Lib.hid hx
 by_cases h2:l.length < 2
 ·have hd:dedupR l=l:=by
   match l,h2 with
   | [],_=>rfl
   | [_],_=>rfl
  have HD:=Lib.hid hd
  have d:decide ((l.length:Int) < 2)=true:=by rw [decide_eq_true_iff];omega
  clear hd hx h2
  go_enter Tryz.func189,Tryz.ntmps189
  go_wp2
  go_ret
  exact ⟨by rw [HD.out];rfl,by rw [HD.out];exact HX.out,⟨rfl,rfl,rfl,Nat.le_refl _,fun _ _ _=>rfl⟩,HFF.out,ShK.refl _ _⟩
 ·have d:decide ((l.length:Int) < 2)=false:=by rw [decide_eq_false_iff_not];omega
  clear hx
  go_enter Tryz.func189,Tryz.ntmps189
  go_wp2_with fail
  go_loopw [3] (fun i wr => ∃ k n:Nat,1≤k∧k≤l.length∧i=.int .i64 k∧wr=w.drewN n∧Hid (dedupR (l.take k)=l.take k)) (fun i _=>l.length - (intOf i).toNat)
  case atStart=>exact ⟨1,0,by omega,by omega,rfl,rfl,Lib.hid (dedup_oneR l (by omega))⟩
  case round =>
   obtain ⟨k,n,hk1,hk,rfl,rfl,HK⟩:=hrel
   by_cases hlt:k < l.length
   ·obtain ⟨m,hm⟩:∃ m,k=m+1:=⟨k - 1,by omega⟩
    have HM:=Lib.hid hm
    have hml:m < l.length:=by omega
    obtain ⟨p0,p1⟩:=rl_cell (w:=w) HX.out k hlt
    obtain ⟨q0,q1⟩:=rl_cell (w:=w) HX.out m hml
    have hw1:IntKind.i64.wrap ((k:Int) - 1)=(m:Int):=by rw [show (k:Int) - 1=(m:Int) by omega];exact Go.IntWalk.i64_in _ (by omega)
    have hmi:(0:Int)≤(m:Int):=by omega
    by_cases he:l[k]=l[m]
    ·have H0:HalfR w b o l (k+1) k:=by
      have hd:dedupR (l.take (k+1))=l.take k:=by
       have h1:=HK.out
       subst hm
       exact (dedup_sameR l m hlt he.symm).trans h1
      refine ⟨by rw [hd,List.length_take];omega,fun i hi=>?_,fun i hi _=>rl_cell (w:=w) HX.out i hi⟩
      have hi':i < l.length:=by rw [hd,List.length_take] at hi;omega
      have e:(dedupR (l.take (k+1)))[i]=l[i]:=by simp only [hd,List.getElem_take]
      rw [e]
      exact rl_cell (w:=w) HX.out i hi'
     have H0':=Lib.hid H0
     have d1:eqRl ⟨l[k].o,l[k].n⟩ ⟨l[m].o,l[m].n⟩=true:=decide_eq_true he
     clear he H0 hm
     go_wp2_with fail
     go_big_quiet (fail)
     go_wp2_with fail
     clear p0 p1 q0 q1 d1 hw1
     go_loopw [3,5] (fun kv iv wr => ∃ kk t:Nat,1≤t∧t≤l.length - k∧kk+1≤k+t∧kv=.int .i64 kk∧iv=.int .i64 t∧HalfR wr b o l (k+t) kk∧w.grownBy wr (some b)∧(∀ i,wr.frozen? ⟨b,i,none⟩=false)∧b < wr.heap.size∧Hid (ShK w wr b)) (fun _ iv _=>l.length - (intOf iv).toNat)
     case atStart=>exact ⟨k,1,by omega,by omega,by omega,rfl,rfl,H0'.out.drewN _,⟨rfl,rfl,rfl,Nat.le_refl _,fun _ _ _=>rfl⟩,hf,hb,Lib.hid (ShK.refl _ _)⟩
     case round =>
      obtain ⟨kk,t,ht1,ht,hkk,rfl,rfl,hh,hg,hfr,hbr,HSH⟩:=hrel
      have HG:=Lib.hid hg
      by_cases hlt2:t < l.length - k
      ·obtain ⟨u,hu⟩:∃ u,t=u+1:=⟨t - 1,by omega⟩
       have hkt:k+t < l.length:=by omega
       have hku:k+u < l.length:=by omega
       obtain ⟨p0,p1⟩:=(show Two wr b (o+k * 2+t * 2) l[k+t] from by have:=hh.high (k+t) (by omega) (by omega);rwa [show o+(k+t) * 2=o+k * 2+t * 2 by omega] at this)
       obtain ⟨q0,q1⟩:=(show Two wr b (o+k * 2+u * 2) l[k+u] from by have:=hh.high (k+u) (by omega) (by omega);rwa [show o+(k+u) * 2=o+k * 2+u * 2 by omega] at this)
       have hkl:kk < l.length:=by omega
       obtain ⟨r0,r1⟩:=hh.high kk hkl (Nat.le_refl _)
       have hw1:IntKind.i64.wrap ((t:Int) - 1)=(u:Int):=by rw [show (t:Int) - 1=(u:Int) by omega];exact Go.IntWalk.i64_in _ (by omega)
       have hui:(0:Int)≤(u:Int):=by omega
       have hul:u < l.length - k:=by omega
       by_cases he:l[k+t]=l[k+u]
       ·have d1:(!eqRl ⟨l[k+t].o,l[k+t].n⟩ ⟨l[k+u].o,l[k+u].n⟩)=false:=congrArg (!·) (decide_eq_true he)
        have HN:Hid (HalfR wr b o l (k+(t+1)) kk):=Lib.hid (by subst hu;exact hh.same (m:=k+u) hkt he.symm)
        clear he hh hg hu
        go_wp2_with fail
        go_big_quiet (fail)
        go_wp2
        exact ⟨⟨kk,t+1,by omega,by omega,by omega,rfl,by go_num,HN.out.drewN _,grown_drewN HG.out _,hfr,hbr,Lib.hid (HSH.out.drewN _)⟩,by simp [intOf];omega⟩
       ·have d1:(!eqRl ⟨l[k+t].o,l[k+t].n⟩ ⟨l[k+u].o,l[k+u].n⟩)=true:=congrArg (!·) (decide_eq_false he)
        have HN:=Lib.hid (fun n=>show HalfR (W2 (wr.drewN n) b (o+kk * 2) l[k+t]) b o l (k+(t+1)) (kk+1) by subst hu;exact (hh.drewN n).put (m:=k+u) hkt (by omega) (fun e=>he e.symm))
        clear he hh hg hu
        go_wp2_with fail
        go_big_quiet (fail)
        go_wp2
        refine ⟨⟨kk+1,t+1,by omega,by omega,by omega,by go_num,by go_num,?_,?_,?_,?_,?_⟩,by simp [intOf];omega⟩
        ·have h:=HN.out nq
         unfold W2 at h
         with_reducible exact h
        ·have h:=grown_w9R (b:=b) (a:=o+kk * 2) (s:=l[k+t]) (grown_drewN HG.out nq)
         unfold W2 at h
         with_reducible exact h
        ·intro i
         simpa using hfr i
        ·simpa using hbr
        ·have h:=Lib.hid (sh_w9R (b:=b) (a:=o+kk * 2) (s:=l[k+t]) (HSH.out.drewN nq))
         unfold W2 at h
         with_reducible exact h
      ·obtain ⟨hlen,hlow⟩:=hh.all (show k+t=l.length by omega)
       have HLEN:=Lib.hid hlen
       have HLOW:=Lib.hid hlow
       have hkl:kk < l.length:=by omega
       have hkc:kk < cap:=by omega
       obtain ⟨W',hW,hclr⟩:∃ W',W'=wr.setCells b (o+kk * 2) (Builtin.zeroCells zeroRl.cells (l.length - kk)).toList∧∀ ty,Sem.run Tryz.prog (Builtin.clear_ #[23] ty #[.slice (some ⟨b,o+kk * 2,none⟩) (l.length - kk) (cap - kk)]) wr=.ok (.tuple #[]) W' :=
        ⟨_,rfl,fun ty=>run_clear2R wr _ 78 ty zeroRl Tryz.underlying23 rl_zero b (o+kk * 2) (l.length - kk) (cap - kk) (by omega) rfl (high_someR hh (by omega)) (fun j=>hfr _) (zero_oneR _)⟩
       have HOUT:Hid (∀ i,i < o+kk * 2→W'.cell? ⟨b,i,none⟩=wr.cell? ⟨b,i,none⟩):=Lib.hid (fun i hi=>by rw [hW];exact World.cell?_setCells_out b _ _ _ _ (fun _ _=>.inl hi))
       have HFZ:Hid (∀ i,W'.frozen? ⟨b,i,none⟩=false):=Lib.hid (fun i=>by rw [hW];exact frozen_sets _ _ _ (hfr i))
       have HGW:Hid (w.grownBy W' (some b)):=Lib.hid (by rw [hW];exact grown_sets _ _ _ hg)
       have HSW:Hid (ShK w W' b):=Lib.hid (by rw [hW];exact sh_sets _ _ _ HSH.out)
       clear hh hg hlen hlow hW
       go_wp2_with fail
       go_ret
       refine ⟨by rw [HLEN.out];rfl,?_,HGW.out,HFZ.out,HSW.out⟩
       refine two_cellsR (fun i hi=>(HLOW.out i hi).drop1 (fun j h1 h2=>HOUT.out j ?_))
       have:=HLEN.out
       omega
    ·have HN:Hid (dedupR (l.take (k+1))=l.take (k+1)):=Lib.hid (by
      have h1:=HK.out
      subst hm
      exact (dedup_moreR l m hlt (fun e=>he e.symm)).trans (by rw [h1];exact (List.take_succ_eq_append_getElem hlt).symm))
     have d1:eqRl ⟨l[k].o,l[k].n⟩ ⟨l[m].o,l[m].n⟩=false:=decide_eq_false he
     clear he hm
     go_wp2_with fail
     go_big_quiet (fail)
     go_wp2
     exact ⟨⟨k+1,n+nq,by omega,by omega,by go_num,rfl,HN⟩,by simp [intOf];omega⟩
   ·have HD:=Lib.hid (show dedupR l=l by have:=HK.out;rwa [List.take_of_length_le (by omega)] at this)
    go_wp2
    go_ret
    exact ⟨by rw [HD.out];rfl,by rw [HD.out];exact HX.out,⟨rfl,rfl,rfl,Nat.le_refl _,fun _ _ _=>rfl⟩,HFF.out,ShK.refl _ _⟩
end
section
open Go.RowKit Go.Shelf Go.Lib Go.Sort

instance rlInh:Inhabited Rl:=⟨⟨ByteArray.empty,ByteArray.empty⟩⟩
theorem rlc_one (s:Rl):∀ u∈s.cells,u.oneCell'=true:=fun u hu=>rls_one [s] u (by simpa using hu)
set_option maxHeartbeats 1000000 in
theorem syn_LessG (x y:Rl) (w:World):Calls Tryz.prog 109 #[rv x,rv y] w fun e w'=>e=.returned (.bool (decide (cmpR x y < 0)))∧Gr w w':=by
 have O:=Lib.hid (fun W=>syn_orderG x y W)
 generalize cmpR x y=c at O ⊢
 obtain ⟨a,b⟩:=x
 obtain ⟨c1,d⟩:=y
 go_enter Tryz.func109,Tryz.ntmps109
 go_wp2_with (go_at_call 161;refine (O.out _).mono ?_;rintro e w1 ⟨rfl,hg⟩)
 go_ret
 exact ⟨rfl,(((Gr.refl w).alloc _).alloc _).trans hg⟩
set_option maxHeartbeats 1000000 in
theorem pol_Sort1 (s t:Rl) (w:World):Calls Tryz.prog 188 #[rv s,rv t] w fun e w'=>e=.returned (.int .i64 (cmpR s t))∧Gr w w':=by
 have A1:=Lib.hid (fun W=>syn_LessG s t W)
 have A2:=Lib.hid (fun W=>syn_LessG t s W)
 have E1:=Lib.hid (fun (h:cmpR s t < 0)=>show cmpR s t = -1 by have:=sgn_rl s t;unfold sgn at this;omega)
 have E2:=Lib.hid (fun (h:cmpR t s < 0)=>show cmpR s t=1 by have:=sgn_rl s t;have:=wcmp_rl.neg s t;unfold sgn at *;omega)
 have E3:=Lib.hid (fun (h:¬ cmpR s t < 0) (h':¬ cmpR t s < 0)=>show cmpR s t=0 by have:=wcmp_rl.neg s t;omega)
 obtain ⟨h1,h2⟩:=s
 obtain ⟨h1',h2'⟩:=t
 have HG:=Lib.hid (show Gr w ((w.alloc (.cells #[.string h1,.string h2] 78)).alloc (.cells #[.string h1',.string h2'] 78)) from ((Gr.refl w).alloc _).alloc _)
 generalize cmpR ⟨h1,h2⟩ ⟨h1',h2'⟩=c at A1 E1 E2 E3 ⊢
 generalize cmpR ⟨h1',h2'⟩ ⟨h1,h2⟩=d at A2 E2 E3
 go_enter Tryz.func188,Tryz.ntmps188
 go_wp2_with fail
 refine (A1.out _).mono ?_
 rintro e w1 ⟨rfl,hg⟩
 have HG1:=Lib.hid (HG.out.trans hg)
 obtain ⟨⟨ca,fa,za⟩,⟨cb,fb,zb⟩⟩:=keep2 hg.below
 clear hg
 by_cases hc:c < 0
 ·have dc:decide (c < 0)=true:=decide_eq_true hc
  have R:=Lib.hid (E1.out hc)
  rw [dc]
  clear hc
  go_wp2
  go_ret
  exact ⟨by rw [R.out];rfl,HG1.out⟩
 ·have dc:decide (c < 0)=false:=decide_eq_false hc
  have HC:=Lib.hid hc
  rw [dc]
  clear hc
  go_wp2_with fail
  refine (A2.out _).mono ?_
  rintro e w2 ⟨rfl,hg⟩
  have HG2:=Lib.hid (HG1.out.trans hg)
  clear hg
  by_cases hd:d < 0
  ·have dd:decide (d < 0)=true:=decide_eq_true hd
   have R:=Lib.hid (E2.out hd)
   rw [dd]
   clear hd
   go_wp2
   go_ret
   exact ⟨by rw [R.out];rfl,HG2.out⟩
  ·have dd:decide (d < 0)=false:=decide_eq_false hd
   have R:=Lib.hid (E3.out (by have:=HC.out;omega) (by omega))
   rw [dd]
   clear hd
   go_wp2
   go_ret
   exact ⟨by rw [R.out];rfl,HG2.out⟩
theorem swo_stR:SWO (ltOf cmpR) where
 irrefl x:=decide_eq_false (lt_irrefl'R x)
 trans x y z h h':=decide_eq_true (lt_trans'R (of_decide_eq_true h) (of_decide_eq_true h'))
 ntrans x y z h h':=by
  have h1:=of_decide_eq_false h
  have h2:=of_decide_eq_false h'
  have n1:=wcmp_rl.neg x y
  have n2:=wcmp_rl.neg y z
  have n3:=wcmp_rl.neg x z
  obtain ⟨a,_⟩:=wcmp_rl.le z y x (by omega) (by omega)
  exact decide_eq_false (by omega)
theorem tot_stR (x y:Rl) (h:ltOf cmpR x y=false) (h':ltOf cmpR y x=false):x=y:=by
 have h1:=of_decide_eq_false h
 have h2:=of_decide_eq_false h'
 have n1:=wcmp_rl.neg x y
 exact (cmpR_zero x y).1 (by omega)
def sortSR (l:List Rl):List Rl:=l.mergeSort fun x y => !(ltOf cmpR) y x
theorem sort_leR (l:List Rl):(sortSR l).Pairwise fun x y=>cmpR x y≤0:=by
 have h:(sortSR l).Pairwise fun x y=>(!(ltOf cmpR) y x)=true:=by
  refine List.pairwise_mergeSort ?_ ?_ l
  ·intro a b c h1 h2
   simp only [Bool.not_eq_true'] at h1 h2 ⊢
   exact swo_stR.ntrans c b a h2 h1
  ·intro a b
   cases h:ltOf cmpR b a with
   | false=>simp
   | true=>simp [swo_stR.asymmA h]
 refine h.imp fun {x y} h=>?_
 simp only [Bool.not_eq_true'] at h
 have h1:=of_decide_eq_false h
 have n1:=wcmp_rl.neg x y
 omega
theorem dedup_sortR (l:List Rl):dedupR (sortSR l)=insAllR [] l:=by
 refine asc_uniqueR _ _ (dedup_ascR _ (sort_leR l)) (insAll_ascR l [] List.Pairwise.nil) fun z=>?_
 rw [dedup_memR,insAll_memR]
 simp [sortSR]
theorem sort_lenR (l:List Rl):(sortSR l).length=l.length:=by simp [sortSR]
theorem cmpLays_stR (blk off size:Nat) (w:World):CmpLays Tryz.prog 188 #[] Rl.cells 2 cmpR blk off size w :=
 fun _ _ _ _ x y=>(pol_Sort1 x y _).mono fun _ _ ⟨he,hg⟩=>⟨he,gr_grow hg⟩
theorem flatK_getR (l:List Rl) (j:Nat) (u:Value) (h:(l.flatMap Rl.cells)[j]? = some u):j < l.length * 2∧(flatK Rl.cells 2 l.toArray)[j]! = u:=by
 have hj:j < l.length * 2:=by rw [← flat_len Rl.cells 2 Rl.cells_len l];exact (List.getElem?_eq_some_iff.1 h).1
 refine ⟨hj,?_⟩
 have hi:j / 2 < l.length:=by omega
 have hf:j % 2 < 2:=Nat.mod_lt _ (by decide)
 rw [get_flatK _ _ _ _ (by simpa using hj)]
 have e:j=j / 2 * 2+j % 2:=by omega
 have h':=h
 rw [e,flat_get Rl.cells 2 Rl.cells_len l (j / 2) (j % 2) hf _ (List.getElem?_eq_getElem hi)] at h'
 have e1:l.toArray[j / 2]! = l[j / 2]:=by rw [getElem!_pos l.toArray (j / 2) (by simpa using hi)];simp
 rw [e1,List.getElem!_eq_getElem?_getD,h']
 rfl
theorem holds_stR {w:World} {b o:Nat} {l:List Rl} (hx:∀ j u,(l.flatMap Rl.cells)[j]? = some u→w.cell? ⟨b,o+j,none⟩=some u) (hf:∀ i,w.frozen? ⟨b,i,none⟩=false):HoldsK Rl.cells 2 w b o l.toArray:=by
 intro j hj
 rw [size_flatK] at hj
 have hj':j < (l.flatMap Rl.cells).length:=by rw [flat_len Rl.cells 2 Rl.cells_len];simpa using hj
 have hu:=List.getElem?_eq_getElem hj'
 refine ⟨?_,hf _⟩
 rw [hx j _ hu,← (flatK_getR l j _ hu).2]
 rfl
theorem cells_stR {w:World} {b o:Nat} {l:List Rl} (h:HoldsK Rl.cells 2 w b o l.toArray) (j:Nat) (u:Value) (hu:(l.flatMap Rl.cells)[j]? = some u):w.cell? ⟨b,o+j,none⟩=some u:=by
 obtain ⟨hj,he⟩:=flatK_getR l j u hu
 have:=(h j (by rw [size_flatK];simpa using hj)).1
 rw [he] at this
 exact this
theorem sort_grownR (w:World) (blk off n:Nat) (d:Array Rl) (os:Array Obj):w.grownBy (sortWorldK Rl.cells 2 w blk off n d os) (some blk):=by
 refine ⟨rfl,rfl,rfl,?_,fun k hk hne=>?_⟩
 ·unfold sortWorldK;rw [Go.Sort.size_grow,size_putRowK];exact Nat.le_add_right _ _
 ·have hkb:¬ blk=k:=fun e=>hne (by rw [e])
  show ((w.heap.modify blk _)++os)[k]? = w.heap[k]?
  rw [Array.getElem?_append_left (by simpa using hk)]
  simp [Array.getElem?_modify,hkb]
theorem sort_frozenR (w:World) (blk off n:Nat) (d:Array Rl) (os:Array Obj) (hb:blk < w.heap.size) (i:Nat):(sortWorldK Rl.cells 2 w blk off n d os).frozen? ⟨blk,i,none⟩=w.frozen? ⟨blk,i,none⟩:=by
 unfold sortWorldK
 rw [Go.Sort.frozen?_grow _ _ _ (by rw [size_putRowK];exact hb)]
 unfold putRowK
 rw [frozen?_putRow]
 rfl
theorem st_SortFuncR (b o cap:Nat) (l:List Rl) (w:World) (hl:l.length≤1000) (hb:b < w.heap.size)
  (hx:∀ j u,(l.flatMap Rl.cells)[j]? = some u→w.cell? ⟨b,o+j,none⟩=some u) (hf:∀ i,w.frozen? ⟨b,i,none⟩=false) :
  Calls Tryz.prog 187 #[.slice (some ⟨b,o,none⟩) l.length cap,.func (.func 188) #[] #[]] w fun e w' =>
   e=.returned (.tuple #[])∧(∀ j u,((sortSR l).flatMap Rl.cells)[j]? = some u→w'.cell? ⟨b,o+j,none⟩=some u)∧(∀ i,w'.frozen? ⟨b,i,none⟩=false)∧w.grownBy w' (some b)∧ShK w w' b:=by
 have eg:∀ args w,(callFunc 188 args).run Tryz.prog w=.ok (.enter 188 args) w:=enters_of Tryz.func188 (by kernel_rfl) rfl
 have hH:=holds_stR hx hf
 have h:=AnyQ.slices_SortFunc_total (α:=Rl) Tryz.sortR 2 Tryz.isAgg78 Tryz.sizeOf78 Rl.cells Rl.cells_len rlc_one cmpR swo_stR 188 #[] b o cap l.toArray w eg (cmpLays_stR b o _ w) hH hb (by simp;omega) tot_stR
 have hs:l.toArray.size=l.length:=by simp
 rw [hs] at h
 refine h.mono ?_
 rintro e w' ⟨he,n,os,rfl⟩
 refine ⟨he,?_,fun i=>(sort_frozenR w b o n _ os hb i).trans (hf i),sort_grownR w b o n _ os,sh_sort _ _ _ _ _ _ _ _ _⟩
 exact cells_stR (holdsK_sortWorldK_c Rl.cells 2 w b o l.toArray _ n os hH hb (by simp))
theorem st_SortFunc_noneR (p:Option Addr) (cap:Nat) (fv:Value) (w:World):Calls Tryz.prog 187 #[.slice p 0 cap,fv] w fun e w'=>e=.returned (.tuple #[])∧w'=w :=
 AnyF.slices_SortFunc_none Tryz.sortR p cap fv w
theorem st_Compact_nilR (cap:Nat) (w:World):Calls Tryz.prog 189 #[.slice none 0 cap] w fun e w'=>e=.returned (.slice none 0 cap)∧w'=w:=by
 go_enter Tryz.func189,Tryz.ntmps189
 go_wp2
 go_ret
 exact ⟨rfl,rfl⟩
set_option maxRecDepth 100000 in
theorem st_CloneRW (va:Value) (l:List Rl) (w:World) (ha:SlA w 2 va l.length (l.flatMap Rl.cells)) (hl:l.length≤1000) :
  Calls Tryz.prog 186 #[va] w fun e w'=>Below w.heap.size w w'∧∃ v,e=.returned v∧w'.ownsRow w.heap.size 78 2 v l.length (l.flatMap Rl.cells):=by
 have hmax:maxLen=9223372036854775807:=by decide
 rcases ha with ha | ⟨⟨a,c,rfl⟩,hn,-⟩
 case inr =>
  obtain rfl:l=[]:=List.eq_nil_of_length_eq_zero hn
  obtain ⟨inf,hinf,hz0,hz1,hz2⟩:=info_parts rl_info'
  have HINF:=Lib.hid hinf
  have q22:∀ (w:World) (a:Option Addr) (n c n' c':Nat),(binOp .eql 23 (.slice a n c) (.slice none n' c')).run Tryz.prog w=.ok (.bool a.isNone) w:=fun w a n c n' c'=>Lib.run_eql_slice_nil w _ _ a n c n' c' Tryz.underlying23
  clear hn hl hinf
  go_enter Tryz.func186,Tryz.ntmps186
  go_wp2_with (at_builtin;refine halt_ ?_)
  unfold Halt_
  refine app_zero _ rfl _ _ 23 rfl 78 inf Tryz.underlying23 HINF.out (some ⟨w.heap.size,0,none⟩) 0 0 (Nat.le_refl _) rfl _ _ rfl ?_
  go_wp2
  go_ret
  exact ⟨(Below.refl _ _).alloc (Nat.le_refl _) _,_,rfl,by simp,.inr ⟨w.heap.size,0,#[],rfl,Nat.le_refl _,heap_new1 _ _,Nat.le_refl _,by omega,by simp,by simp⟩⟩
 rcases ha.2.2 with ⟨rfl,h0⟩ | ⟨b,off,cap,rfl,hc,hm,hlt,hx⟩
 ·refine (AnyE.slices_Clone_nil Tryz.cloneR 0 0 w).mono ?_
  rintro e w' ⟨rfl,rfl⟩
  exact ⟨Below.refl _ _,_,rfl,by obtain rfl:l=[]:=List.eq_nil_of_length_eq_zero h0;exact World.ownsRow_nil _ _ _ _⟩
 ·obtain ⟨inf,hinf,hz0,hz1,hz2⟩:=info_parts rl_info'
  refine (AnyE.slices_Clone Tryz.cloneR inf _ 2 32 hinf hz0 hz1 hz2 rfl (by decide) Tryz.sizeOf78 b off l.length cap (l.flatMap Rl.cells) w (flat_len _ _ Rl.cells_len _) ha.2.1 (by omega) hx (rls_one l)).mono ?_
  rintro e w' ⟨v',rfl,hown,hnn,hb⟩
  exact ⟨hb,v',rfl,hown⟩

set_option maxRecDepth 100000 in
set_option maxHeartbeats 4000000 in
theorem pol_SortRolesO (va:Value) (l:List Rl) (w:World) (ha:SlA w 2 va l.length (l.flatMap Rl.cells)) (hl:l.length≤1000) :
  Calls Tryz.prog 127 #[va] w fun e w' => ∃ v,e=.returned v∧w'.ownsRow w.heap.size 78 2 v (insAllR [] l).length ((insAllR [] l).flatMap Rl.cells)∧Below w.heap.size w w':=by
 have hmax:maxLen=9223372036854775807:=by decide
 have C:=Lib.hid (st_CloneRW va l w ha hl)
 have F:=Lib.hid (fun g cap W h1 h2 h3=>st_SortFuncR g 0 cap l W hl h1 h2 h3)
 have K:=Lib.hid (fun g cap W=>rl_Compact g 0 cap (sortSR l) W)
 have DS:=dedup_sortR l
 have DL:=dedup_lenR (sortSR l)
 rw [sort_lenR,DS] at DL
 simp only [sort_lenR,DS] at K
 clear DS ha
 go_enter Tryz.func127,Tryz.ntmps127
 go_wp2_with fail
 refine C.out.mono ?_
 rintro e w1 ⟨hb1,v1,rfl,hr⟩
 have HB1:=Lib.hid hb1
 have HOWN:=Lib.hid hr
 rcases hr.2 with ⟨rfl,hr0⟩ | ⟨g,cap,cur,rfl,hwg,hgc,hlc,hcm,hcs,_⟩
 ·obtain rfl:l=[]:=List.eq_nil_of_length_eq_zero hr0
  clear hb1 hr hr0 HOWN
  go_wp2_with fail
  refine (st_SortFunc_noneR _ _ _ _).mono ?_
  rintro e w2 ⟨rfl,rfl⟩
  go_wp2_with fail
  refine (st_Compact_nilR _ _).mono ?_
  rintro e w2 ⟨rfl,rfl⟩
  go_wp2
  go_ret
  exact ⟨_,rfl,World.ownsRow_nil _ _ _ _,HB1.out⟩
 ·have hg:g < w1.heap.size:=(Array.getElem?_eq_some_iff.1 hgc).1
  rw [hmax] at hcm
  have HX:=Lib.hid (show ∀ j u,(l.flatMap Rl.cells)[j]? = some u→w1.cell? ⟨g,0+j,none⟩=some u from fun j u hu=>by
   have:=hr.cells (g:=g) rfl j u hu
   rwa [addr_add] at this)
  have HF:=Lib.hid (show ∀ i,w1.frozen? ⟨g,i,none⟩=false from fun i=>by simp [World.frozen?,hgc])
  have HGC:=Lib.hid hgc
  have HCS:=Lib.hid hcs
  clear hb1 hr hgc hcs HOWN
  go_wp2_with fail
  refine (F.out g cap _ hg HX.out HF.out).mono ?_
  rintro e w2 ⟨rfl,hx2,hf2,hg2,hs2⟩
  have HS2:=Lib.hid hs2
  clear hs2
  have HX2:=Lib.hid hx2
  have HF2:=Lib.hid hf2
  have HG2:=Lib.hid hg2
  clear hx2 hf2 hg2
  go_wp2_with fail
  refine (K.out g cap _ hl hlc hcm (Nat.lt_of_lt_of_le hg HG2.out.size) HX2.out HF2.out).mono ?_
  rintro e w3 ⟨rfl,hx3,hg3,hf3,hs3⟩
  have HS3:=Lib.hid (HS2.out.trans hs3)
  clear hs3
  have HF3:=Lib.hid hf3
  have HX3:=Lib.hid hx3
  have HG3:=Lib.hid (gb_trans HG2.out hg3)
  clear hx3 hg3 hf3
  go_wp2
  go_ret
  exact ⟨_,rfl,own_of_sh HGC.out HCS.out HS3.out hwg (by omega) (by rw [hmax];omega) (flat_len _ _ Rl.cells_len _) HX3.out,HB1.out.grown HG3.out HB1.out.size (by rintro k ⟨⟩;exact hwg)⟩
end
end Go.Proofs.YtomhekohcadijaaGreatDoor
