/- Parts: TabRight SemEval SemFns LowFns SimFns Ref11E LowLaw FreshLaw NamesFresh StReach -/
import Derived.Test.YtilgbodgmkmjjaaGreatDoorPart7
import Derived.Test.YtilgbodgmkmjjaaGreatDoorPart15
import Derived.Test.YtilgbodgmkmjjaaGreatDoorPart12
import Derived.Test.YtilgbodgmkmjjaaGreatDoorPart13
import Derived.Test.YtilgbodgmkmjjaaGreatDoorPart14
import Derived.Test.YtilgbodgmkmjjaaGreatDoorPart11
import Derived.Test.YtilgbodgmkmjjaaGreatDoorPart6
import Derived.Test.YtilgbodgmkmjjaaGreatDoorPart5
namespace Go.Proofs.YtilgbodgmkmjjaaGreatDoor
section
open Go.RowKit Go.Shelf

set_option maxRecDepth 100000 in
set_option maxHeartbeats 4000000 in
theorem right_role (g g' p l:Nat) (i:Int) (w:World) (c0:w.cell? ⟨g,0,none⟩=some (.int .i64 p)) (c1:w.cell? ⟨g',0,none⟩=some (.int .i64 l)) (hp:p≤1000) (hl:l≤1000) :
  Calls Tryz.prog 278 #[.int .i64 i,.pointer (some ⟨g,0,none⟩),.pointer (some ⟨g',0,none⟩)] w fun e w'=>e=.returned (.bool (inR (p * l) i))∧w'=w:=by
 have hmul:p * l≤1000 * 1000:=Nat.mul_le_mul hp hl
 have wr1:IntKind.i64.wrap ((p:Int) * (l:Int))=(p:Int) * (l:Int):=Go.IntWalk.i64_in _ (by rw [← Int.natCast_mul];omega)
 have R:=Lib.hid (show inR (p * l) i=(decide (0≤i) && decide (i < (p:Int) * (l:Int))) by unfold inR;rw [← Int.natCast_mul];simp)
 by_cases h0:0≤i
 ·by_cases h1:i < (p:Int) * (l:Int)
  ·go_enter Tryz.func278,Tryz.ntmps278
   go_wp2
   go_ret
   exact ⟨by rw [R.out];simp [h0,h1],rfl⟩
  ·go_enter Tryz.func278,Tryz.ntmps278
   go_wp2
   go_ret
   exact ⟨by rw [R.out];simp [h0,h1],rfl⟩
 ·have hd:=Lib.hid (decide_eq_false h0)
  go_enter Tryz.func278,Tryz.ntmps278
  go_wp2
  go_ret
  exact ⟨by rw [R.out,hd.out];rfl,rfl⟩
structure RightAt (w:World) (p l:Int) (A B:Array Value) (wx:World):Prop where
 p:Blk wx w.heap.size #[.int .i64 p]
 l:Blk wx (w.heap.size+1) #[.int .i64 l]
 a:Blk wx (w.heap.size+1+1) A
 b:Blk wx (w.heap.size+1+1+1) B
 low:Below w.heap.size w wx
theorem RightAt.put {w wx:World} {p l:Int} {A B C:Array Value} {o:Nat} {v:Value} (h:RightAt w p l A B wx) (ho:o < B.size) (hC:B.setIfInBounds o v=C):RightAt w p l A C (wx.setCell ⟨w.heap.size+1+1+1,o,none⟩ v) :=
 ⟨h.p.far (by omega),h.l.far (by omega),h.a.far (by omega),by rw [← hC];exact h.b.put (o:=o) (v:=v) ho,below_put h.low (by omega)⟩
theorem RightAt.drew {w wx:World} {p l:Int} {A B:Array Value} (h:RightAt w p l A B wx):RightAt w p l A B wx.drew :=
 have hb:Below wx.heap.size wx wx.drew:=below_drew (Below.refl _ _)
 ⟨h.p.below hb,h.l.below hb,h.a.below hb,h.b.below hb,h.low.trans (hb.mono h.low.size)⟩
theorem RightAt.new (w:World) (p l:Int) (A B:Array Value) (t u:TypeId):RightAt w p l A B ((((w.alloc (.cells #[.int .i64 p] t)).alloc (.cells #[.int .i64 l] t)).alloc (.cells A u)).alloc (.cells B u)) :=
 ⟨(((Blk.new w _ t).alloc _).alloc _).alloc _,
 by have:=(((Blk.new (w.alloc (.cells #[.int .i64 p] t)) #[.int .i64 l] t).alloc (.cells A u)).alloc (.cells B u));simpa using this,
 by have:=((Blk.new ((w.alloc (.cells #[.int .i64 p] t)).alloc (.cells #[.int .i64 l] t)) A u).alloc (.cells B u));simpa using this,
 by have:=(Blk.new (((w.alloc (.cells #[.int .i64 p] t)).alloc (.cells #[.int .i64 l] t)).alloc (.cells A u)) B u);simpa using this,
 ((((Below.refl _ _).alloc (Nat.le_refl _) _).alloc (by simp) _).alloc (by simp;omega) _).alloc (by simp;omega) _⟩
section
variable {p l:Nat} {rh who ra rb via:Int}
theorem okRu_1 (hp:p≤1000) (hl:l≤1000):okRu p l ⟨1,rh,who,ra,rb,via⟩=(inR (p * l) rh && (eqRu ⟨1,rh,who,ra,rb,via⟩ ⟨1,rh,who,0,0,0⟩ && (decide (0≤who) && decide (who < (p:Int))))):=by
 unfold okRu;rw [decide_eq_true hp,decide_eq_true hl];simp [eqRu,inR]
theorem okRu_2 (hp:p≤1000) (hl:l≤1000):okRu p l ⟨2,rh,who,ra,rb,via⟩=(inR (p * l) rh && (eqRu ⟨2,rh,who,ra,rb,via⟩ ⟨2,rh,0,ra,0,0⟩ && inR (p * l) ra)):=by
 unfold okRu;rw [decide_eq_true hp,decide_eq_true hl];simp [eqRu]
theorem okRu_3 (hp:p≤1000) (hl:l≤1000):okRu p l ⟨3,rh,who,ra,rb,via⟩=(inR (p * l) rh && (eqRu ⟨3,rh,who,ra,rb,via⟩ ⟨3,rh,0,ra,0,via⟩ && (inR (p * l) ra && (decide (0≤via) && decide (via < (l:Int)))))):=by
 unfold okRu;rw [decide_eq_true hp,decide_eq_true hl];simp [eqRu,inR,Bool.and_assoc]
theorem okRu_4 (hp:p≤1000) (hl:l≤1000):okRu p l ⟨4,rh,who,ra,rb,via⟩=(inR (p * l) rh && (inR (p * l) rb && (eqRu ⟨4,rh,who,ra,rb,via⟩ ⟨4,rh,0,ra,rb,0⟩ && inR (p * l) ra))):=by
 unfold okRu;rw [decide_eq_true hp,decide_eq_true hl];simp [eqRu,Bool.and_assoc,Bool.and_left_comm,Bool.and_comm]
theorem okRu_0 {k:Int} (h1:¬ k=1) (h2:¬ k=2) (h3:¬ k=3) (h4:¬ k=4):okRu p l ⟨k,rh,who,ra,rb,via⟩=false:=by
 unfold okRu;simp [h1,h2,h3,h4]
end
set_option maxRecDepth 100000 in
set_option maxHeartbeats 16000000 in
theorem table_Right (p l:Nat) (r:Ru) (w:World) (hp:p≤1000) (hl:l≤1000) :
  Calls Tryz.prog 231 #[.int .i64 p,.int .i64 l,ruv r] w fun e w'=>e=.returned (.bool (okRu p l r))∧Below w.heap.size w w':=by
 obtain ⟨k,rh,who,ra,rb,via⟩:=r
 have t1:decide ((p:Int) < 0)=false:=by rw [decide_eq_false_iff_not];omega
 have t2:decide ((l:Int) < 0)=false:=by rw [decide_eq_false_iff_not];omega
 have t3:decide (1000 < (p:Int))=false:=by rw [decide_eq_false_iff_not];omega
 have t4:decide (1000 < (l:Int))=false:=by rw [decide_eq_false_iff_not];omega
 have R1:=Lib.hid (okRu_1 (rh:=rh) (who:=who) (ra:=ra) (rb:=rb) (via:=via) hp hl)
 have R2:=Lib.hid (okRu_2 (rh:=rh) (who:=who) (ra:=ra) (rb:=rb) (via:=via) hp hl)
 have R3:=Lib.hid (okRu_3 (rh:=rh) (who:=who) (ra:=ra) (rb:=rb) (via:=via) hp hl)
 have R4:=Lib.hid (okRu_4 (rh:=rh) (who:=who) (ra:=ra) (rb:=rb) (via:=via) hp hl)
 have R0:=Lib.hid (@okRu_0 p l rh who ra rb via k)
 have RO:=Lib.hid (fun (A B:Array Value) W (h:RightAt w p l A B W)=>right_role w.heap.size (w.heap.size+1) p l rh W (h.p.1 0) (h.l.1 0) hp hl)
 have RA:=Lib.hid (fun (A B:Array Value) W (h:RightAt w p l A B W)=>right_role w.heap.size (w.heap.size+1) p l ra W (h.p.1 0) (h.l.1 0) hp hl)
 have RB:=Lib.hid (fun (A B:Array Value) W (h:RightAt w p l A B W)=>right_role w.heap.size (w.heap.size+1) p l rb W (h.p.1 0) (h.l.1 0) hp hl)
 have HT:=Lib.hid (RightAt.new w p l #[.int .i64 k,.int .i64 rh,.int .i64 who,.int .i64 ra,.int .i64 rb,.int .i64 via] #[.int .i64 k,.int .i64 rh,.int .i64 0,.int .i64 0,.int .i64 0,.int .i64 0] 3 151)
 clear hp hl
 generalize inR (p * l) rh=ok at RO R1 R2 R3 R4
 generalize inR (p * l) ra=oa at RA R2 R3 R4
 generalize inR (p * l) rb=ob at RB R4
 go_enter Tryz.func231,Tryz.ntmps231
 go_wp2_with fail
 obtain ⟨w1,hw1⟩:∃ V,V=(((w.alloc (.cells #[.int .i64 p] 3)).alloc (.cells #[.int .i64 l] 3)).alloc (.cells #[.int .i64 k,.int .i64 rh,.int .i64 who,.int .i64 ra,.int .i64 rb,.int .i64 via] 151)).alloc (.cells #[.int .i64 k,.int .i64 rh,.int .i64 0,.int .i64 0,.int .i64 0,.int .i64 0] 151):=⟨_,rfl⟩
 rw [← hw1] at HT ⊢
 clear hw1 t1 t2 t3 t4
 refine (RO.out _ _ _ HT.out).mono ?_
 rintro e wx ⟨rfl,rfl⟩
 obtain ⟨cp,fp,zp⟩:=HT.out.p
 obtain ⟨cl,fl,zl⟩:=HT.out.l
 obtain ⟨ca,fa,za⟩:=HT.out.a
 obtain ⟨cb,fb,zb⟩:=HT.out.b
 by_cases hk:k=1
 ·skip
  subst hk
  go_upto_region 12 with fail
  clear cp fp zp cl fl zl ca fa za cb fb zb
  generalize hw:wx.setCell ⟨w.heap.size+1+1+1,2,none⟩ (.int .i64 who)=wp1
  have HT:=Lib.hid (show RightAt w p l #[.int .i64 1,.int .i64 rh,.int .i64 who,.int .i64 ra,.int .i64 rb,.int .i64 via] #[.int .i64 1,.int .i64 rh,.int .i64 who,.int .i64 0,.int .i64 0,.int .i64 0] wp1 by rw [← hw];exact HT.out.put (o:=2) (v:=.int .i64 who) (by simp) (by simp))
  clear hw
  obtain ⟨cp,fp,zp⟩:=HT.out.p
  obtain ⟨cl,fl,zl⟩:=HT.out.l
  obtain ⟨ca,fa,za⟩:=HT.out.a
  obtain ⟨cb,fb,zb⟩:=HT.out.b
  have HE:∀ W,(binOp .eql 151 (.agg #[.int .i64 1,.int .i64 rh,.int .i64 who,.int .i64 ra,.int .i64 rb,.int .i64 via]) (.agg #[.int .i64 1,.int .i64 rh,.int .i64 who,.int .i64 0,.int .i64 0,.int .i64 0])).run Tryz.prog W=.ok (.bool (eqRu ⟨1,rh,who,ra,rb,via⟩ ⟨1,rh,who,0,0,0⟩)) W:=fun W=>rule_eql 1 rh who ra rb via 1 rh who 0 0 0 W
  generalize eqRu ⟨1,rh,who,ra,rb,via⟩ ⟨1,rh,who,0,0,0⟩=ee at HE R1
  cases ok with
  | false =>
   go_wp2
   go_ret
   exact ⟨by rw [R1.out];rfl,HT.out.low⟩
  | true =>
   cases ee with
   | false =>
    go_wp2
    go_ret
    exact ⟨by rw [R1.out];rfl,HT.out.low⟩
   | true =>
    by_cases h0:0≤who
    ·skip
     have hd:decide (0≤who)=true:=decide_eq_true h0
     by_cases h1:who < (p:Int)
     ·skip
      have hd2:decide (who < (p:Int))=true:=decide_eq_true h1
      go_wp2
      go_ret
      exact ⟨by rw [R1.out,hd,hd2];rfl,HT.out.low⟩
     ·skip
      have hd2:decide (who < (p:Int))=false:=decide_eq_false h1
      go_wp2
      go_ret
      exact ⟨by rw [R1.out,hd,hd2];rfl,HT.out.low⟩
    ·skip
     have hd:decide (0≤who)=false:=decide_eq_false h0
     go_wp2
     go_ret
     exact ⟨by rw [R1.out,hd];rfl,HT.out.low⟩
 have n1:=hk
 clear hk
 by_cases hk:k=2
 ·skip
  subst hk
  go_upto_region 16 with fail
  clear cp fp zp cl fl zl ca fa za cb fb zb
  generalize hw:wx.setCell ⟨w.heap.size+1+1+1,3,none⟩ (.int .i64 ra)=wp2
  have HT:=Lib.hid (show RightAt w p l #[.int .i64 2,.int .i64 rh,.int .i64 who,.int .i64 ra,.int .i64 rb,.int .i64 via] #[.int .i64 2,.int .i64 rh,.int .i64 0,.int .i64 ra,.int .i64 0,.int .i64 0] wp2 by rw [← hw];exact HT.out.put (o:=3) (v:=.int .i64 ra) (by simp) (by simp))
  clear hw
  obtain ⟨cp,fp,zp⟩:=HT.out.p
  obtain ⟨cl,fl,zl⟩:=HT.out.l
  obtain ⟨ca,fa,za⟩:=HT.out.a
  obtain ⟨cb,fb,zb⟩:=HT.out.b
  have HE:∀ W,(binOp .eql 151 (.agg #[.int .i64 2,.int .i64 rh,.int .i64 who,.int .i64 ra,.int .i64 rb,.int .i64 via]) (.agg #[.int .i64 2,.int .i64 rh,.int .i64 0,.int .i64 ra,.int .i64 0,.int .i64 0])).run Tryz.prog W=.ok (.bool (eqRu ⟨2,rh,who,ra,rb,via⟩ ⟨2,rh,0,ra,0,0⟩)) W:=fun W=>rule_eql 2 rh who ra rb via 2 rh 0 ra 0 0 W
  generalize eqRu ⟨2,rh,who,ra,rb,via⟩ ⟨2,rh,0,ra,0,0⟩=ee at HE R2
  cases ok with
  | false =>
   go_wp2
   go_ret
   exact ⟨by rw [R2.out];rfl,HT.out.low⟩
  | true =>
   cases ee with
   | false =>
    go_wp2
    go_ret
    exact ⟨by rw [R2.out];rfl,HT.out.low⟩
   | true =>
    go_wp2_with fail
    refine (RA.out _ _ _ HT.out).mono ?_
    rintro e wz ⟨rfl,rfl⟩
    go_wp2
    go_ret
    exact ⟨by rw [R2.out];rfl,HT.out.low⟩
 have n2:=hk
 clear hk
 by_cases hk:k=3
 ·skip
  subst hk
  go_wp2_with fail
  clear cp fp zp cl fl zl ca fa za cb fb zb
  refine wp_region_held_drew (S:=(fun W => ∀ o,W.cell? ⟨w.heap.size+1+1,o,none⟩=(#[.int .i64 3,.int .i64 rh,.int .i64 who,.int .i64 ra,.int .i64 rb,.int .i64 via]:Array Value)[o]?)) (by kernel_rfl) HT.out.drew.a.1 (fun hHeld=>?_)
  have HT:=HT.out.drew
  obtain ⟨wk,hwk⟩:∃ W,W=wx.drew:=⟨_,rfl⟩
  rw [← hwk] at HT hHeld ⊢
  clear hwk
  (refine hyes 0 ?_);(refine hyes 1 ?_);(refine hyes 2 ?_);(refine hyes 3 ?_);(refine hyes 4 ?_);(try simp only [Act.put,List.setIfInBounds_toArray,List.set])
  obtain ⟨cb,fb,zb⟩:=HT.b
  (refine held_call 5 rfl (by kernel_rfl) (fun K hK=>?_);go_simp)
  clear cb fb zb
  generalize hw:wk.setCell ⟨w.heap.size+1+1+1,3,none⟩ (.int .i64 ra)=wk1
  have HT:RightAt w p l #[.int .i64 3,.int .i64 rh,.int .i64 who,.int .i64 ra,.int .i64 rb,.int .i64 via] #[.int .i64 3,.int .i64 rh,.int .i64 0,.int .i64 ra,.int .i64 0,.int .i64 0] wk1:=by rw [← hw];exact HT.put (o:=3) (v:=.int .i64 ra) (by simp) (by simp)
  clear hw
  (refine hK.out _ _ (HT.a.1) (fun hHeld=>?_);clear hK K;(try simp only [Act.put,List.setIfInBounds_toArray,List.set]))
  (refine hyes 6 ?_);(try simp only [Act.put,List.setIfInBounds_toArray,List.set])
  obtain ⟨cb,fb,zb⟩:=HT.b
  (refine held_call 7 rfl (by kernel_rfl) (fun K hK=>?_);go_simp)
  clear cb fb zb
  generalize hw:wk1.setCell ⟨w.heap.size+1+1+1,5,none⟩ (.int .i64 via)=wk2
  have HT:RightAt w p l #[.int .i64 3,.int .i64 rh,.int .i64 who,.int .i64 ra,.int .i64 rb,.int .i64 via] #[.int .i64 3,.int .i64 rh,.int .i64 0,.int .i64 ra,.int .i64 0,.int .i64 via] wk2:=by rw [← hw];exact HT.put (o:=5) (v:=.int .i64 via) (by simp) (by simp)
  clear hw
  (refine hK.out _ _ (HT.a.1) (fun hHeld=>?_);clear hK K;(try simp only [Act.put,List.setIfInBounds_toArray,List.set]))
  refine wpAnyH_done (by kernel_rfl) ?_ _
  have HT:=Lib.hid HT
  obtain ⟨cp,fp,zp⟩:=HT.out.p
  obtain ⟨cl,fl,zl⟩:=HT.out.l
  obtain ⟨ca,fa,za⟩:=HT.out.a
  obtain ⟨cb,fb,zb⟩:=HT.out.b
  have HE:∀ W,(binOp .eql 151 (.agg #[.int .i64 3,.int .i64 rh,.int .i64 who,.int .i64 ra,.int .i64 rb,.int .i64 via]) (.agg #[.int .i64 3,.int .i64 rh,.int .i64 0,.int .i64 ra,.int .i64 0,.int .i64 via])).run Tryz.prog W=.ok (.bool (eqRu ⟨3,rh,who,ra,rb,via⟩ ⟨3,rh,0,ra,0,via⟩)) W:=fun W=>rule_eql 3 rh who ra rb via 3 rh 0 ra 0 via W
  generalize eqRu ⟨3,rh,who,ra,rb,via⟩ ⟨3,rh,0,ra,0,via⟩=ee at HE R3
  cases ok with
  | false =>
   go_wp2
   go_ret
   exact ⟨by rw [R3.out];rfl,HT.out.low⟩
  | true =>
   cases ee with
   | false =>
    go_wp2
    go_ret
    exact ⟨by rw [R3.out];rfl,HT.out.low⟩
   | true =>
    go_wp2_with fail
    refine (RA.out _ _ _ HT.out).mono ?_
    rintro e wz ⟨rfl,rfl⟩
    cases oa with
    | false =>
     go_wp2
     go_ret
     exact ⟨by rw [R3.out];rfl,HT.out.low⟩
    | true =>
     by_cases h0:0≤via
     ·skip
      have hd:decide (0≤via)=true:=decide_eq_true h0
      by_cases h1:via < (l:Int)
      ·skip
       have hd2:decide (via < (l:Int))=true:=decide_eq_true h1
       go_wp2
       go_ret
       exact ⟨by rw [R3.out,hd,hd2];rfl,HT.out.low⟩
      ·skip
       have hd2:decide (via < (l:Int))=false:=decide_eq_false h1
       go_wp2
       go_ret
       exact ⟨by rw [R3.out,hd,hd2];rfl,HT.out.low⟩
     ·skip
      have hd:decide (0≤via)=false:=decide_eq_false h0
      go_wp2
      go_ret
      exact ⟨by rw [R3.out,hd];rfl,HT.out.low⟩
 have n3:=hk
 clear hk
 by_cases hk:k=4
 ·skip
  subst hk
  go_upto_region 14 with fail
  clear cp fp zp cl fl zl ca fa za cb fb zb
  generalize hw:wx.setCell ⟨w.heap.size+1+1+1,4,none⟩ (.int .i64 rb)=wp3
  have HT:=Lib.hid (show RightAt w p l #[.int .i64 4,.int .i64 rh,.int .i64 who,.int .i64 ra,.int .i64 rb,.int .i64 via] #[.int .i64 4,.int .i64 rh,.int .i64 0,.int .i64 0,.int .i64 rb,.int .i64 0] wp3 by rw [← hw];exact HT.out.put (o:=4) (v:=.int .i64 rb) (by simp) (by simp))
  clear hw
  cases ok with
  | false =>
   obtain ⟨cp,fp,zp⟩:=HT.out.p
   obtain ⟨cl,fl,zl⟩:=HT.out.l
   obtain ⟨ca,fa,za⟩:=HT.out.a
   obtain ⟨cb,fb,zb⟩:=HT.out.b
   go_upto_region 16 with fail
   clear cp fp zp cl fl zl ca fa za cb fb zb
   generalize hw:wp3.setCell ⟨w.heap.size+1+1+1,3,none⟩ (.int .i64 ra)=wp4
   have HT:=Lib.hid (show RightAt w p l #[.int .i64 4,.int .i64 rh,.int .i64 who,.int .i64 ra,.int .i64 rb,.int .i64 via] #[.int .i64 4,.int .i64 rh,.int .i64 0,.int .i64 ra,.int .i64 rb,.int .i64 0] wp4 by rw [← hw];exact HT.out.put (o:=3) (v:=.int .i64 ra) (by simp) (by simp))
   clear hw
   obtain ⟨cp,fp,zp⟩:=HT.out.p
   obtain ⟨cl,fl,zl⟩:=HT.out.l
   obtain ⟨ca,fa,za⟩:=HT.out.a
   obtain ⟨cb,fb,zb⟩:=HT.out.b
   go_wp2
   go_ret
   exact ⟨by rw [R4.out];rfl,HT.out.low⟩
  | true =>
   obtain ⟨cp,fp,zp⟩:=HT.out.p
   obtain ⟨cl,fl,zl⟩:=HT.out.l
   obtain ⟨ca,fa,za⟩:=HT.out.a
   obtain ⟨cb,fb,zb⟩:=HT.out.b
   go_wp2_with fail
   refine (RB.out _ _ _ HT.out).mono ?_
   rintro e wy ⟨rfl,rfl⟩
   go_upto_region 16 with fail
   clear cp fp zp cl fl zl ca fa za cb fb zb
   generalize hw:wy.setCell ⟨w.heap.size+1+1+1,3,none⟩ (.int .i64 ra)=wp5
   have HT:=Lib.hid (show RightAt w p l #[.int .i64 4,.int .i64 rh,.int .i64 who,.int .i64 ra,.int .i64 rb,.int .i64 via] #[.int .i64 4,.int .i64 rh,.int .i64 0,.int .i64 ra,.int .i64 rb,.int .i64 0] wp5 by rw [← hw];exact HT.out.put (o:=3) (v:=.int .i64 ra) (by simp) (by simp))
   clear hw
   obtain ⟨cp,fp,zp⟩:=HT.out.p
   obtain ⟨cl,fl,zl⟩:=HT.out.l
   obtain ⟨ca,fa,za⟩:=HT.out.a
   obtain ⟨cb,fb,zb⟩:=HT.out.b
   have HE:∀ W,(binOp .eql 151 (.agg #[.int .i64 4,.int .i64 rh,.int .i64 who,.int .i64 ra,.int .i64 rb,.int .i64 via]) (.agg #[.int .i64 4,.int .i64 rh,.int .i64 0,.int .i64 ra,.int .i64 rb,.int .i64 0])).run Tryz.prog W=.ok (.bool (eqRu ⟨4,rh,who,ra,rb,via⟩ ⟨4,rh,0,ra,rb,0⟩)) W:=fun W=>rule_eql 4 rh who ra rb via 4 rh 0 ra rb 0 W
   generalize eqRu ⟨4,rh,who,ra,rb,via⟩ ⟨4,rh,0,ra,rb,0⟩=ee at HE R4
   cases ob with
   | false =>
    go_wp2
    go_ret
    exact ⟨by rw [R4.out];rfl,HT.out.low⟩
   | true =>
    cases ee with
    | false =>
     go_wp2
     go_ret
     exact ⟨by rw [R4.out];rfl,HT.out.low⟩
    | true =>
     go_wp2_with fail
     refine (RA.out _ _ _ HT.out).mono ?_
     rintro e wz ⟨rfl,rfl⟩
     go_wp2
     go_ret
     exact ⟨by rw [R4.out];rfl,HT.out.low⟩
 go_wp2
 go_ret
 exact ⟨by rw [R0.out n1 n2 n3 hk];rfl,HT.out.low⟩
end
section
open Go.RowKit Go.Shelf

theorem sem_within (n:Nat) (w:World) (h:n≤64):Calls Tryz.prog 229 #[.int .i64 n] w fun e w'=>e=.returned (.int .i64 n)∧w'=w:=by
 go_enter Tryz.func229,Tryz.ntmps229
 go_wp2
 go_ret
 refine ⟨?_,rfl⟩
 show Ending.returned (.int .i64 (max 0 (min (n:Int) 64)))=_
 congr 2
 omega
theorem ru_rows_info:(Tryz.prog.info? 162).map (fun i=>(i.zero,i.size,i.bytes))=some (some (.slice none 0 0),1,24):=by kernel_rfl
theorem MkAt.new {w:World} {d:MkI} (ok:d.ok) (hf:FamAt w d.F d.W0 d.g0 d.n d.pr []) (hm:Blk w d.M #[.pointer (some ⟨d.F,0,none⟩),.int .i64 d.pr,.int .i64 d.lk,.int .i64 (0:Nat)])
  (hk:Blk w d.K #[.pointer (some ⟨d.M,0,none⟩),.slice (some ⟨d.BY,0,none⟩) d.n d.n,.slice (some ⟨d.VIA,0,none⟩) d.lk d.lk,.slice none 0 0]) (hb:Blk w d.BY (arrOf d.n (fun _=>.slice none 0 0))) (hv:Blk w d.VIA (arrOf d.lk (fun _=>.slice none 0 0)))
  (hC:d.C≤w.heap.size) (ht:TB w):MkAt w d [] (fun _=>.slice none 0 0) [] 0 (.slice none 0 0) 0 :=
 ⟨⟨hm,hk,hb,hv,fun p _=>by
   have e:rowL d.n [] p=[]:=by unfold rowL byR viaR;split <;> rfl
   rw [e];exact World.ownsRow_nil _ _ _ _,fun p q _ _ _ g hg=>by simp [Value.ownBlock] at hg,fun p _ g hg=>by simp [Value.ownBlock] at hg,hC⟩,hf,.inl ⟨rfl,rfl⟩,ok,Nat.le_refl _,ht,Nat.le_refl _⟩
theorem QAt.pop {w:World} {C:Nat} {g off n cap:Nat} {f:Nat × Nat} {q:List (Nat × Nat)} (h:QAt w C (.slice (some ⟨g,off,none⟩) n cap) (f :: q)) :
  n=q.length+1∧w.cell? ⟨g,off,none⟩=some (.int .i64 (f.1:Int))∧w.cell? ⟨g,off+1,none⟩=some (.int .i64 (f.2:Int))∧n≤cap∧cap≤maxLen∧QAt w C (.slice (some ⟨g,off+2,none⟩) q.length (cap - 1)) q:=by
 rcases h with ⟨h,_⟩ | ⟨g',off',cap',h,h1,h2,h3,h4,h5,h6⟩
 ·cases h
 ·simp only [Value.slice.injEq,Option.some.injEq,Addr.mk.injEq] at h
  obtain ⟨⟨rfl,rfl,_⟩,rfl,rfl⟩:=h
  rw [List.length_cons] at h3 ⊢
  refine ⟨rfl,h5 0 _ rfl,h5 1 _ rfl,h3,h4,.inr ⟨g,off+2,cap - 1,rfl,h1,h2,by omega,by omega,fun j v hv=>?_,fun j hj=>?_⟩⟩
  ·have:=h5 (j+2) v (by show ([Value.int .i64 (f.1:Int),.int .i64 (f.2:Int)]++qcells q)[j+2]? = some v;rw [List.getElem?_append_right (by simp)];simpa using hv)
   rw [show off+2+j=off+(j+2) by omega];exact this
  ·have:=h6 (j+2) (by omega)
   rw [show off+2+j=off+(j+2) by omega];exact this
theorem QAt.last {w:World} {C:Nat} {g off n cap:Nat} {f:Nat × Nat} {q:List (Nat × Nat)} (h:QAt w C (.slice (some ⟨g,off,none⟩) n cap) (f :: q)) (hc:cap=1):QAt w C (.slice (some ⟨g,off,none⟩) q.length 0) q:=by
 rcases h with ⟨h,_⟩ | ⟨g',off',cap',h,h1,h2,h3,h4,h5,h6⟩
 ·cases h
 ·simp only [Value.slice.injEq,Option.some.injEq,Addr.mk.injEq] at h
  obtain ⟨⟨rfl,rfl,_⟩,rfl,rfl⟩:=h
  rw [List.length_cons] at h3
  have e:q=[]:=List.eq_nil_of_length_eq_zero (by omega)
  subst e
  exact .inr ⟨g,off,0,rfl,h1,h2,Nat.le_refl _,by omega,fun j v hv=>by simp [qcells] at hv,fun j hj=>by omega⟩
theorem MkAt.pop {w:World} {d:MkI} {rs:List Ru} {rv:Nat→Value} {fs:List (Nat × Nat)} {k:Nat} {g off n cap:Nat} {st:Nat} (h:MkAt w d rs rv fs k (.slice (some ⟨g,off,none⟩) n cap) st) (hk:k < fs.length) (oo c2:Nat) (ho:(oo=off+2∧c2=cap - 1)∨(oo=off∧c2=0∧cap=1)) :
  MkAt (w.setCell ⟨d.K,3,none⟩ (.slice (some ⟨g,oo,none⟩) (n - 1) c2)) d rs rv fs (k+1) (.slice (some ⟨g,oo,none⟩) (n - 1) c2) st:=by
 have hq:=h.q
 rw [List.drop_eq_getElem_cons hk] at hq
 obtain ⟨hn,_,_,_,_,hq1⟩:=hq.pop
 have e:n - 1=(fs.drop (k+1)).length:=by omega
 have hq':QAt w d.C (.slice (some ⟨g,oo,none⟩) (n - 1) c2) (fs.drop (k+1)):=by
  rw [e]
  rcases ho with ⟨rfl,rfl⟩ | ⟨rfl,rfl,hc⟩
  ·exact hq1
  ·exact hq.last hc
 have ok:=h.ok
 have o0:=ok.o0;have o1:=ok.o1;have o2:=ok.o2;have o3:=ok.o3;have o4:=ok.o4;have o5:=ok.o5;have o6:=ok.o6;have o8:=ok.o8;have o9:=ok.o9
 have ks:Kp (fun b=>b=d.K) w (w.setCell ⟨d.K,3,none⟩ (.slice (some ⟨g,oo,none⟩) (n - 1) c2)):=Kp.set rfl
 have hgC:=(h.qge g rfl).1
 have hgq:∀ g',(Value.slice (some ⟨g,oo,none⟩) (n - 1) c2).ownBlock=some g'→¬ g'=d.K:=by
  intro g' hg' e2
  have e3:g=g':=by simpa [Value.ownBlock] using hg'
  omega
 exact ⟨mkB_queue h.b ok _ (fun p hp g' hg' e=>h.b.qa p hp g' hg' (by simpa [Value.ownBlock] using e)),h.f.kp ks (by omega) (by omega) (fun i hi=>by omega),hq'.kp ks hgq,ok,hk,h.tb.kp ks (by omega),h.sl⟩
def leftW (N K F:Nat) (w:World):Nat :=
 (N - (match w.cell? ⟨F,3,none⟩ with | some (.int _ t)=>t.toNat | _=>0))+(match w.cell? ⟨K,3,none⟩ with | some (.slice _ n _)=>n | _=>0)
theorem leftW_at {w:World} {d:MkI} {rs:List Ru} {rv:Nat→Value} {fs:List (Nat × Nat)} {k:Nat} {qv:Value} {st:Nat} (h:MkAt w d rs rv fs k qv st):leftW (d.n * d.pr) d.K d.F w=d.n * d.pr - k:=by
 have h1:w.cell? ⟨d.F,3,none⟩=some (.int .i64 (fs.length:Int)):=h.f.ff.1 3
 have h2:w.cell? ⟨d.K,3,none⟩=some qv:=h.b.kk.1 3
 have h3:=fam_len h.f
 have h4:=h.kl
 unfold leftW
 rw [h1,h2]
 have hq:(match some qv with | some (.slice _ n _)=>n | _=>0)=(fs.drop k).length:=by
  obtain ⟨a,c,e⟩:=h.q.form
  rw [e]
 rw [hq,List.length_drop]
 show d.n * d.pr - (fs.length:Int).toNat+(fs.length - k)=_
 rw [Int.toNat_natCast]
 omega
def goodR (p l:Nat) (rules:List Ru):List Ru:=rules.filter (okRu p l)
structure ModAt (w:World) (M F W0 g0 p l:Nat) (fs:List (Nat × Nat)) (st:Nat):Prop where
 mm:Blk w M #[.pointer (some ⟨F,0,none⟩),.int .i64 p,.int .i64 l,.int .i64 st]
 f:FamAt w F W0 g0 (p * l) p fs
 sl:fs.length≤st
theorem ModAt.below {w w':World} {M F W0 g0 p l:Nat} {fs:List (Nat × Nat)} {st:Nat} (h:ModAt w M F W0 g0 p l fs st) (hb:Below w.heap.size w w'):ModAt w' M F W0 g0 p l fs st:=⟨h.mm.below hb,h.f.below hb,h.sl⟩
theorem ev_blocks {w3:World} {K:Nat} {m X Y:Value} {a1 a2:Array Value} {t:TypeId} (hK:Blk w3 K #[m,.slice none 0 0,.slice none 0 0,.slice none 0 0]) :
  Blk (((((w3.setCell ⟨K,1,none⟩ X).setCell ⟨K,2,none⟩ Y).alloc (.cells a1 t)).alloc (.cells a2 t)).drew) K #[m,X,Y,.slice none 0 0]∧Blk (((((w3.setCell ⟨K,1,none⟩ X).setCell ⟨K,2,none⟩ Y).alloc (.cells a1 t)).alloc (.cells a2 t)).drew) w3.heap.size a1 ∧
  Blk (((((w3.setCell ⟨K,1,none⟩ X).setCell ⟨K,2,none⟩ Y).alloc (.cells a1 t)).alloc (.cells a2 t)).drew) (w3.heap.size+1) a2∧Below K w3 (((((w3.setCell ⟨K,1,none⟩ X).setCell ⟨K,2,none⟩ Y).alloc (.cells a1 t)).alloc (.cells a2 t)).drew):=by
 have h1:Blk ((w3.setCell ⟨K,1,none⟩ X).setCell ⟨K,2,none⟩ Y) K #[m,X,Y,.slice none 0 0]:=by simpa using (hK.put (o:=1) (v:=X) (by simp)).put (o:=2) (v:=Y) (by simp)
 have hs:((w3.setCell ⟨K,1,none⟩ X).setCell ⟨K,2,none⟩ Y).heap.size=w3.heap.size:=by simp [World.setCell]
 have hKl:=hK.2.2
 have hb:Below K w3 ((w3.setCell ⟨K,1,none⟩ X).setCell ⟨K,2,none⟩ Y):=below_put (below_put (Below.refl _ _) (Nat.le_refl _)) (Nat.le_refl _)
 generalize (w3.setCell ⟨K,1,none⟩ X).setCell ⟨K,2,none⟩ Y=W at *
 have hd:∀ V:World,Below V.heap.size V V.drew:=fun V=>below_drew (Below.refl _ _)
 refine ⟨((h1.alloc _).alloc _).below (hd _),?_,?_,below_drew ((hb.alloc (by omega) _).alloc (by simp;omega) _)⟩
 ·rw [← hs];exact ((Blk.new W a1 t).alloc _).below (hd _)
 ·have:=(Blk.new (W.alloc (.cells a1 t)) a2 t).below (hd _)
  rw [← hs];simpa using this
theorem goodR_snoc {p l:Nat} {rules:List Ru} {k:Nat} (hk:k < rules.length):goodR p l (rules.take (k+1))=goodR p l (rules.take k)++(if okRu p l rules[k]=true then [rules[k]] else []):=by
 unfold goodR
 rw [List.take_succ_eq_append_getElem hk,List.filter_append,List.filter_cons,List.filter_nil]
set_option maxRecDepth 100000 in
set_option maxHeartbeats 16000000 in
theorem sem_Eval (p l:Nat) (vr:Value) (rules:List Ru) (w:World) (hp:p≤64) (hl:l≤64) (hr:SlA w 6 vr rules.length (rules.flatMap Ru.cells)) (hn:rules.length≤5000) (ht:TB w) :
  Calls Tryz.prog 156 #[.int .i64 p,.int .i64 l,vr] w fun e w' => ∃ M F W0 g0 fs st,e=.returned (.pointer (some ⟨M,0,none⟩))∧ModAt w' M F W0 g0 p l fs st∧LeastN l (goodR p l rules) (fun r x=>(r,x)∈fs)∧st≤2 * rules.length+fs.length * (rules.length * (p+3))∧Below w.heap.size w w':=by
 have W1:=Lib.hid (fun W=>sem_within p W hp)
 have W2:=Lib.hid (fun W=>sem_within l W hl)
 have HR:=Lib.hid hr
 have HTB:=Lib.hid ht
 have hnl:p * l≤64 * 64:=Nat.mul_le_mul hp hl
 have SN:=Lib.hid (fun W=>set_New (p * l) p W (by omega) ((Nat.eq_zero_or_pos p).elim (fun h=>.inr (by rw [h,Nat.zero_mul])) .inl) hp)
 have hmk1:=fun W=>run_mk 245 162 (.slice none 0 0) 24 Tryz.underlying245 ru_rows_info rfl (by decide) (p * l) (by omega) W
 have hmk2:=fun W=>run_mk 245 162 (.slice none 0 0) 24 Tryz.underlying245 ru_rows_info rfl (by decide) l (by omega) W
 obtain ⟨n,hnn⟩:∃ n,n=p * l:=⟨_,rfl⟩
 have hwm:IntKind.i64.wrap ((p:Int) * (l:Int))=(n:Int):=by rw [hnn,Int.natCast_mul];exact Go.IntWalk.i64_in _ (by rw [← Int.natCast_mul];omega)
 rw [← hnn] at SN hmk1 hnl
 have hwm2:(p:Int) * (l:Int)=(n:Int):=by rw [hnn,Int.natCast_mul]
 have HNN:=Lib.hid hnn
 clear hnn
 obtain ⟨ra,rc,rfl⟩:=hr.form
 clear hr ht
 go_enter Tryz.func156,Tryz.ntmps156
 go_wp2_with fail
 refine (W1.out _).mono ?_
 rintro e w1 ⟨rfl,rfl⟩
 go_wp2_with fail
 refine (W2.out _).mono ?_
 rintro e w1 ⟨rfl,rfl⟩
 go_wp2_with fail
 refine (SN.out _).mono ?_
 rintro e w2 ⟨F,W0,g0,rfl,hF,hb,hFge,hg0⟩
 have HF:=Lib.hid hF
 have HB:=Lib.hid hb
 clear hF hb SN W1 W2
 go_upto_region 3 with fail
 obtain ⟨w3,hw3⟩:∃ V,V=(w2.alloc (.cells #[.pointer (some ⟨F,0,none⟩),.int .i64 p,.int .i64 l,.int .i64 0] 146)).alloc (.cells #[.pointer (some ⟨w2.heap.size,0,none⟩),.slice none 0 0,.slice none 0 0,.slice none 0 0] 248):=⟨_,rfl⟩
 rw [← hw3]
 have hb3:Below w2.heap.size w2 w3:=by rw [hw3];exact ((Below.refl _ _).alloc (Nat.le_refl _) _).alloc (by simp) _
 have hs3:w3.heap.size=w2.heap.size+2:=by rw [hw3];simp
 have HM3:=Lib.hid (show Blk w3 w2.heap.size #[.pointer (some ⟨F,0,none⟩),.int .i64 p,.int .i64 l,.int .i64 0] by rw [hw3];exact (Blk.new _ _ _).alloc _)
 have HK3:=Lib.hid (show Blk w3 (w2.heap.size+1) #[.pointer (some ⟨w2.heap.size,0,none⟩),.slice none 0 0,.slice none 0 0,.slice none 0 0] by rw [hw3];have:=Blk.new (w2.alloc (.cells #[.pointer (some ⟨F,0,none⟩),.int .i64 p,.int .i64 l,.int .i64 0] 146)) #[.pointer (some ⟨w2.heap.size,0,none⟩),.slice none 0 0,.slice none 0 0,.slice none 0 0] 248;simpa using this)
 have HF3:=Lib.hid (HF.out.below hb3)
 have HB3:=Lib.hid (HB.out.trans (hb3.mono HB.out.size))
 clear hw3 hb3 HB HF
 obtain ⟨ck,fk,zk⟩:=HK3.out
 go_cut [] (fun wx => ∃ (BY VIA:Nat) (V:World),V=wx∧Hid (BY≠VIA∧w3.heap.size≤BY∧w3.heap.size≤VIA∧Below (w2.heap.size+1) w3 V∧Blk V (w2.heap.size+1) #[.pointer (some ⟨w2.heap.size,0,none⟩),.slice (some ⟨BY,0,none⟩) n n,.slice (some ⟨VIA,0,none⟩) l l,.slice none 0 0]∧Blk V BY (arrOf n (fun _=>.slice none 0 0))∧Blk V VIA (arrOf l (fun _=>.slice none 0 0))))
 case first =>
  go_region
  ·go_wp2_with fail
   go_meet
   have h:=ev_blocks (X:=.slice (some ⟨w2.heap.size+2,0,none⟩) n n) (Y:=.slice (some ⟨w2.heap.size+2+1,0,none⟩) l l) (a1:=arrOf n (fun _=>.slice none 0 0)) (a2:=arrOf l (fun _=>.slice none 0 0)) (t:=162) HK3.out
   rw [hs3] at h
   exact ⟨w2.heap.size+2,w2.heap.size+2+1,_,rfl,Lib.hid ⟨by omega,by omega,by omega,h.2.2.2,h.1,h.2.1,h.2.2.1⟩⟩
  ·go_wp2_with fail
   go_meet
   have h:=ev_blocks (X:=.slice (some ⟨w2.heap.size+2+1,0,none⟩) n n) (Y:=.slice (some ⟨w2.heap.size+2,0,none⟩) l l) (a1:=arrOf l (fun _=>.slice none 0 0)) (a2:=arrOf n (fun _=>.slice none 0 0)) (t:=162) HK3.out
   rw [hs3] at h
   exact ⟨w2.heap.size+2+1,w2.heap.size+2,_,rfl,Lib.hid ⟨by omega,by omega,by omega,h.2.2.2,h.1,h.2.2.1,h.2.1⟩⟩
 case rest =>
  obtain ⟨BY,VIA,wx,rfl,hc⟩:=hcut
  obtain ⟨c1,c2,c3,c4,c5,c6,c7⟩:=hc.out
  have h0TB:=HTB.out 0 (by decide)
  have hgl:0 < w1.heap.size:=World.block_lt_of_cell? w1 _ h0TB
  have fl:=HF3.out
  have fo1:=fl.o1
  have fo2:=fl.o2
  have kx:Kp (fun b=>w2.heap.size+1≤b) w3 wx:=⟨c4.os,c4.tape,c4.output,c4.size,fun j _ hj=>c4.block j (by omega)⟩
  have e:=HNN.out
  clear hwm hwm2 hmk1 hmk2 ck fk zk
  subst e
  have hw13:w1.heap.size≤w2.heap.size+1:=by omega
  have HBx:=Lib.hid (HB3.out.trans (c4.mono hw13))
  have H0:∃ d:MkI,d.K=w2.heap.size+1∧d.pr=p∧d.lk=l∧d.F ≥ w1.heap.size∧MkAt wx d [] (fun _=>.slice none 0 0) [] 0 (.slice none 0 0) 0:=by
   refine ⟨⟨wx.heap.size,w2.heap.size+1,w2.heap.size,F,W0,g0,BY,VIA,p,l⟩,rfl,rfl,rfl,hFge,?_⟩
   refine MkAt.new ⟨Nat.lt_of_lt_of_le hgl hFge,fo1,fo2,hg0,Nat.lt_succ_self _,(by show w2.heap.size+1 < BY;omega),(by show w2.heap.size+1 < VIA;omega),c1,c6.2.2,c7.2.2,hp,hl⟩ ?_ ?_ c5 c6 c7 (Nat.le_refl _) (HTB.out.below HBx.out)
   ·exact fl.kp kx (by omega) (by omega) (fun i hi=>by omega)
   ·exact kx.blk HM3.out (by show ¬ (w2.heap.size+1≤w2.heap.size);omega)
  obtain ⟨d,hdK,hdp,hdl,hdF,hM⟩:=H0
  have HM:=Lib.hid hM
  rw [← hdK]
  clear hM c1 c2 c3 c4 c5 c6 c7 hc h0TB hgl fl fo1 fo2 kx HB3 HF3 HM3 HK3 hs3 hFge hg0 hdK HNN
  subst hdp hdl
  have HR2:=Lib.hid (fun W (hb:Below w1.heap.size w1 W)=>HR.out.below hb)
  have RT:=Lib.hid (fun r W=>table_Right d.pr d.lk r W (by omega) (by omega))
  go_wp2_with fail
  go_loopw [40] (fun i wr => ∃ (n:Nat) (rv:Nat→Value) (fs:List (Nat × Nat)) (qv:Value) (st:Nat),n≤rules.length∧i=.int .i64 n∧Hid (MkAt wr d (goodR d.pr d.lk (rules.take n)) rv fs 0 qv st)∧Hid (Below w1.heap.size w1 wr)∧Hid (∀ E:Nat→Nat→Prop,CloN d.lk (goodR d.pr d.lk rules) E→∀ f∈fs,E f.1 f.2)∧Hid (∀ r∈goodR d.pr d.lk (rules.take n),MemP r fs)∧Hid (st≤2 * n)) (fun i _=>rules.length - (intOf i).toNat)
  case atStart=>exact ⟨0,fun _=>.slice none 0 0,[],.slice none 0 0,0,by omega,rfl,HM,HBx,Lib.hid (fun _ _ f hf=>by cases hf),Lib.hid (fun r hr=>by cases hr),Lib.hid (by omega)⟩
  case round =>
   clear HM HBx
   obtain ⟨n,rv,fs,qv,st,hnle,rfl,HM,HB,HSo,HMe,HSt⟩:=hrel
   by_cases hlt:n < rules.length
   ·obtain ⟨b1,o1,c1,he1,hc1,hm1,hb1,hx1⟩:=HR.out.pos (by omega)
    simp only [Value.slice.injEq,true_and] at he1
    obtain ⟨rfl,rfl⟩:=he1
    obtain ⟨p0,p1,p2,p3,p4,p5⟩:=ru_cell (w:=wr) (fun j u hu=>(HB.out.cell (p:=⟨b1,o1+j,none⟩) hb1).trans (hx1 j u hu)) n hlt
    have hbr:b1 < wr.heap.size:=Nat.lt_of_lt_of_le hb1 HB.out.size
    have HGS:=Lib.hid (goodR_snoc (p:=d.pr) (l:=d.lk) hlt)
    have hmr:=List.getElem_mem hlt
    clear hx1
    generalize rules[n]=r at *
    have RTr:=Lib.hid (RT.out r)
    have hgl:(goodR d.pr d.lk (rules.take n)).length≤100000:=by
     have h1:=List.length_filter_le (okRu d.pr d.lk) (rules.take n)
     have h2:=List.length_take_le n rules
     unfold goodR
     omega
    cases hok:okRu d.pr d.lk r with
    | false =>
     rw [hok] at RTr HGS
     have HG2:=Lib.hid (show goodR d.pr d.lk (rules.take (n+1))=goodR d.pr d.lk (rules.take n) by rw [HGS.out];simp)
     obtain ⟨k0,k1,k2,k3,k4,k5⟩:=r
     clear hok HGS
     go_wp2_with fail
     refine (RTr.out _).mono ?_
     rintro e w4 ⟨rfl,hb⟩
     have hba:Below wr.heap.size wr w4:=((Below.refl _ _).alloc (Nat.le_refl _) _).trans (hb.mono (by simp))
     have HM2:=Lib.hid (HM.out.below hba)
     have HB2:=Lib.hid (HB.out.trans (hba.mono HB.out.size))
     clear hb hba RTr
     go_wp2_with fail
     exact ⟨⟨n+1,rv,fs,qv,st,by omega,by go_num,Lib.hid (by rw [HG2.out];exact HM2.out),HB2,HSo,Lib.hid (by rw [HG2.out];exact HMe.out),Lib.hid (by have:=HSt.out;omega)⟩,by simp [intOf];omega⟩
    | true =>
     rw [hok] at RTr HGS
     have HG2:=Lib.hid (show goodR d.pr d.lk (rules.take (n+1))=goodR d.pr d.lk (rules.take n)++[r] by rw [HGS.out];simp)
     have hin:r∈goodR d.pr d.lk rules:=List.mem_filter.2 ⟨hmr,hok⟩
     have PU:=Lib.hid (fun W (h:MkAt W d (goodR d.pr d.lk (rules.take n)) rv fs 0 qv st)=>mk_put h r hok (by have:=HSt.out;omega) hgl (goodR d.pr d.lk rules) hin)
     clear hok HGS
     obtain ⟨k0,k1,k2,k3,k4,k5⟩:=r
     have hkk:=HM.out.b.kk
     obtain ⟨w4a,hw4a⟩:∃ V,V=wr.alloc (.cells #[.int .i64 k0,.int .i64 k1,.int .i64 k2,.int .i64 k3,.int .i64 k4,.int .i64 k5] 151):=⟨_,rfl⟩
     have hb4:Below wr.heap.size wr w4a:=by rw [hw4a];exact (Below.refl _ _).alloc (Nat.le_refl _) _
     have HR4:=Lib.hid (show Blk w4a wr.heap.size #[.int .i64 k0,.int .i64 k1,.int .i64 k2,.int .i64 k3,.int .i64 k4,.int .i64 k5] by rw [hw4a];exact Blk.new _ _ _)
     clear hkk
     go_wp2_with fail
     rw [← hw4a]
     clear hw4a
     refine (RTr.out _).mono ?_
     rintro e w5 ⟨rfl,hb⟩
     have hba:Below wr.heap.size wr w5:=hb4.trans (hb.mono hb4.size)
     have HM2:=Lib.hid (HM.out.below hba)
     have HB2:=Lib.hid (HB.out.trans (hba.mono HB.out.size))
     have HR5:=Lib.hid (HR4.out.below hb)
     clear hb hba RTr hb4 HR4 HM HB
     obtain ⟨cr,fr,zr⟩:=HR5.out
     clear fr
     go_wp2_with fail
     clear cr zr
     refine (PU.out _ HM2.out).mono ?_
     rintro e w6 ⟨rfl,rv',fs',qv',st',hM6,hb6,hg6,hm6,hs6⟩
     have HM6:=Lib.hid hM6
     have HB6:=Lib.hid (HB2.out.trans (hb6.mono hdF))
     have HSo6:=Lib.hid (fun E hE=>hg6.sound E hE (HSo.out E hE))
     have HMe6:=Lib.hid (show ∀ r∈goodR d.pr d.lk (rules.take n)++[⟨k0,k1,k2,k3,k4,k5⟩],MemP r fs' from fun r hr=>by
      rcases List.mem_append.1 hr with hr | hr
      ·exact fun hk=>hg6.sub _ (HMe.out r hr hk)
      ·rw [List.mem_singleton.1 hr];exact hm6)
     have HSt6:=Lib.hid (show st'≤2 * (n+1) by have:=HSt.out;omega)
     clear hM6 hb6 hg6 hm6 hs6 PU
     go_wp2_with fail
     exact ⟨⟨n+1,rv',fs',qv',st',by omega,by go_num,Lib.hid (by rw [HG2.out];exact HM6.out),HB6,HSo6,Lib.hid (by rw [HG2.out];exact HMe6.out),HSt6⟩,by simp [intOf];omega⟩
   ·have hnn:n=rules.length:=by omega
    have htk:rules.take n=rules:=List.take_of_length_le (by omega)
    rw [htk] at HM HMe
    have HSt0:=Lib.hid (show st≤2 * rules.length by have:=HSt.out;omega)
    have hgok:∀ r∈goodR d.pr d.lk rules,okRu d.pr d.lk r=true:=fun r hr=>(List.mem_filter.1 hr).2
    have hgl:(goodR d.pr d.lk rules).length≤rules.length:=List.length_filter_le _ _
    have HI0:=Lib.hid (show SemInv d.pr d.lk (goodR d.pr d.lk rules) fs 0 from ⟨HM.out.f.nodup,HM.out.f.rng,HSo.out,HMe.out,fun _ _ _ _ h=>by simp at h,fun _ _ _ _ _ h=>by simp at h,fun _ _ _ _ h=>by simp at h⟩)
    obtain ⟨R,hR⟩:∃ R,R=goodR d.pr d.lk rules:=⟨_,rfl⟩
    rw [← hR] at HM HI0 hgok hgl
    have HRR:=Lib.hid hR
    clear hR htk HSo HMe HSt
    go_wp2_with fail
    clear hlt hnle hnn
    go_loopw [] (fun wr => ∃ (fs:List (Nat × Nat)) (k:Nat) (qv:Value) (st:Nat),Hid (MkAt wr d R rv fs k qv st)∧Hid (SemInv d.pr d.lk R fs k)∧Hid (Below w1.heap.size w1 wr)∧Hid (st≤2 * rules.length+k * (rules.length * (d.pr+3)))) (fun wr=>leftW (d.n * d.pr) d.K d.F wr)
    case atStart=>exact ⟨fs,0,qv,st,HM,HI0,HB,Lib.hid (by have:=HSt0.out;omega)⟩
    case round =>
     clear HM HI0 HB HSt0
     obtain ⟨fs,k,qv,st,HM,HI,HB,HS⟩:=hrel
     have hfl:=fam_len HM.out.f
     have hN:d.n * d.pr≤4096 * 64:=Nat.mul_le_mul HM.out.f.r64 HM.out.f.c64
     by_cases hk:k < fs.length
     ·have hqe:∃ g off m cap,qv=.slice (some ⟨g,off,none⟩) m cap:=by
       rcases HM.out.q with ⟨_,h⟩ | ⟨g,off,cap,h,_⟩
       ·rw [List.drop_eq_getElem_cons hk] at h;cases h
       ·exact ⟨g,off,_,cap,h⟩
      obtain ⟨g,off,m,cap,rfl⟩:=hqe
      have hq:=HM.out.q
      rw [List.drop_eq_getElem_cons hk] at hq
      obtain ⟨hm,q0,q1,hmc,hcm,_⟩:=hq.pop
      have hgl2:=(HM.out.qge g rfl).2
      have hmp:=fun o2 c2 ho=>HM.out.pop hk o2 c2 ho
      have HMP:=Lib.hid hmp
      have hfm:=List.getElem_mem hk
      have HFK:=Lib.hid (show ∀ fs',Looked d.lk R (fs[k].1,fs[k].2) fs fs'→Looked d.lk R fs[k] fs fs' from fun _ h=>h)
      have HIS:=Lib.hid (fun fs'=>HI.out.step (fs':=fs') hk (fun r hr h3=>by
       rcases okRu_cases (hgok r hr) with ⟨_,_,rfl,_,_⟩ | ⟨_,_,rfl,_,_⟩ | ⟨_,_,v0,rfl,_,_,hv⟩ | ⟨_,_,_,rfl,_,_,_⟩
       ·simp at h3
       ·simp at h3
       ·simpa using hv
       ·simp at h3))
      have hst:st≤90000000000:=by
       have h1:=HS.out
       have h2:rules.length * (d.pr+3)≤5000 * 67:=Nat.mul_le_mul hn (by omega)
       have h3:k * (rules.length * (d.pr+3))≤262144 * (5000 * 67):=Nat.mul_le_mul (by omega) h2
       omega
      have LK:=Lib.hid (fun o2 c2 W (h:MkAt W d R rv fs (k+1) (.slice (some ⟨g,o2,none⟩) (m - 1) c2) st)=>mk_look h fs[k].1 fs[k].2 hfm hgok hst (by omega))
      have hm0:0 < m:=by omega
      have hm1:((m:Int) - 1)=((m - 1:Nat):Int):=by omega
      have hmx:maxLen=9223372036854775807:=by decide
      rw [hmx] at hcm
      clear hq hm hmp hmx
      obtain ⟨ck,fk,zk⟩:=HM.out.b.kk
      generalize fs[k]=f at *
      obtain ⟨ρ,x⟩:=f
      dsimp only at q0 q1 LK HFK
      have hFK:d.F≤d.K:=by have:=HM.out.ok.o4;have:=HM.out.ok.o3;have:=HM.out.ok.o1;have:=HM.out.ok.o2;omega
      have hFs:d.F≤wr.heap.size:=HM.out.lowF
      go_wp2_with fail
      all_goals
       first
        | have HMP:=Lib.hid (HMP.out (off+2) (cap - 1) (.inl ⟨rfl,rfl⟩));have LK:=Lib.hid (LK.out (off+2) (cap - 1));refine (LK.out _ (HMP.out.below ((Below.refl _ _).alloc (Nat.le_refl _) _))).mono ?_
        | have HMP:=Lib.hid (HMP.out off 0 (.inr ⟨rfl,rfl,by omega⟩));have LK:=Lib.hid (LK.out off 0);refine (LK.out _ (HMP.out.below ((Below.refl _ _).alloc (Nat.le_refl _) _))).mono ?_
       rintro e w5 ⟨rfl,fs',qv',st',hmm,hg,hlo,hs⟩
       have HM5:=Lib.hid hmm.a
       have HB5:=Lib.hid (HB.out.trans ((((below_put (Below.refl _ _) hFK).alloc (by simpa using hFs) _).trans (kp_low hmm.kp (by simpa using Nat.le_succ_of_le hFs) (mkX_ge HMP.out))).mono hdF))
       have HI5:=Lib.hid (HIS.out fs' hg.pre hmm.a.f.nodup hmm.a.f.rng (fun E hE=>hg.sound E hE (HI.out.sound E hE)) hlo)
       have HS5:=Lib.hid (show st'≤2 * rules.length+(k+1) * (rules.length * (d.pr+3)) by
        have h0:=HS.out
        have h1:R.length * (d.pr+1)+R.length * 2=R.length * (d.pr+3):=by rw [← Nat.mul_add]
        have h2:R.length * (d.pr+3)≤rules.length * (d.pr+3):=Nat.mul_le_mul_right _ hgl
        have h3:(k+1) * (rules.length * (d.pr+3))=k * (rules.length * (d.pr+3))+rules.length * (d.pr+3):=Nat.succ_mul _ _
        omega)
       have hL1:=leftW_at hmm.a
       have hL2:=leftW_at HM.out
       clear hmm hg hlo hs LK HIS HMP HI HS HB HM
       go_wp2_with fail
       exact ⟨⟨fs',k+1,qv',st',HM5,HI5,HB5,HS5⟩,by rw [hL1,hL2];omega⟩
     ·have hkf:k=fs.length:=by have:=HM.out.kl;omega
      obtain ⟨qa,qc,hqe⟩:=HM.out.q.form
      rw [List.length_drop,hkf,Nat.sub_self] at hqe
      have hkk:=HM.out.b.kk
      subst hqe
      obtain ⟨ck,fk,zk⟩:=hkk
      go_wp2_with fail
      go_ret
      exact ⟨d.M,d.F,d.W0,d.g0,fs,st,rfl,⟨HM.out.b.mm,HM.out.f,HM.out.sl⟩,by rw [← HRR.out];exact (hkf ▸ HI.out).least,hkf ▸ HS.out,HB.out⟩
end
section
open Go.RowKit Go.Shelf

def colsI (fs:List (Nat × Nat)) (i:Int):List Nat:=if 0≤i then colsOf fs i.toNat else []
theorem colsI_nat (fs:List (Nat × Nat)) (i:Nat):colsI fs (i:Int)=colsOf fs i:=by unfold colsI;rw [if_pos (Int.natCast_nonneg i),Int.toNat_natCast]
theorem colsI_len (fs:List (Nat × Nat)) (i:Int):(colsI fs i).length≤64:=by
 unfold colsI;split
 ·exact colsOf_len fs _
 ·simp
theorem colsI_no {w:World} {F W0 g0 rows cols:Nat} {fs:List (Nat × Nat)} (h:FamAt w F W0 g0 rows cols fs) {i:Int} (hi:¬ (0≤i∧i < rows)):colsI fs i=[]:=by
 unfold colsI
 by_cases h0:0≤i
 ·rw [if_pos h0]
  rcases hc:colsOf fs i.toNat with _ | ⟨a,l⟩
  ·rfl
  ·exfalso
   have hm:a∈colsOf fs i.toNat:=by rw [hc];exact List.mem_cons_self ..
   have:=(h.rng _ (colsOf_mem.1 hm).2).1
   dsimp only at this
   omega
 ·rw [if_neg h0]
set_option maxRecDepth 100000 in
set_option maxHeartbeats 1000000 in
theorem fam_ListI {w:World} {F W0 g0 rows cols:Nat} {fs:List (Nat × Nat)} (h:FamAt w F W0 g0 rows cols fs) (hT:TB w) (i:Int) :
  Calls Tryz.prog 160 #[.pointer (some ⟨F,0,none⟩),.int .i64 i] w fun e w' => ∃ v,e=.returned v∧w'.ownsRow w.heap.size 3 1 v (colsI fs i).length (ints (colsI fs i))∧Below w.heap.size w w':=by
 by_cases hi:0≤i∧i < rows
 ·obtain ⟨k,rfl⟩:∃ k:Nat,i=(k:Int):=⟨i.toNat,(Int.toNat_of_nonneg hi.1).symm⟩
  rw [colsI_nat]
  exact fam_List h hT k (by omega)
 ·rw [colsI_no h hi]
  have R:=Lib.hid (fam_rowNo h i hi)
  clear h hT hi
  go_enter Tryz.func160,Tryz.ntmps160
  go_wp2_with fail
  refine R.out.mono ?_
  rintro e w1 ⟨rfl,rfl⟩
  clear R
  go_wp2_with fail
  go_loopw [4,11] (fun vo i wr=>vo=.slice none 0 0∧i=.int .i64 0∧wr=w1) (fun _ _ _=>0)
  case atStart=>exact ⟨rfl,rfl,rfl⟩
  case round =>
   obtain ⟨rfl,rfl,rfl⟩:=hrel
   go_wp2_with fail
   go_ret
   exact ⟨_,rfl,World.ownsRow_nil _ _ _ _,Below.refl _ _⟩
set_option maxHeartbeats 1000000 in
theorem model_Members {w:World} {M F W0 g0 p l:Nat} {fs:List (Nat × Nat)} {st:Nat} (h:ModAt w M F W0 g0 p l fs st) (hT:TB w) (i:Int) :
  Calls Tryz.prog 72 #[.pointer (some ⟨M,0,none⟩),.int .i64 i] w fun e w' => ∃ v,e=.returned v∧w'.ownsRow w.heap.size 3 1 v (colsI fs i).length (ints (colsI fs i))∧Below w.heap.size w w':=by
 have L:=Lib.hid (fam_ListI h.f hT i)
 obtain ⟨cm,fm,zm⟩:=h.mm
 clear h hT
 go_enter Tryz.func72,Tryz.ntmps72
 go_wp2_with fail
 refine L.out.mono ?_
 rintro e w1 ⟨v,rfl,ho,hb⟩
 have HO:=Lib.hid ho
 have HB:=Lib.hid hb
 clear ho hb
 go_wp2
 go_ret
 exact ⟨v,rfl,HO.out,HB.out⟩
end
section
open Go.RowKit Go.Shelf

structure TmAt (w:World) (t M:Nat) (PS NS:List ByteArray) (l:List St) (fs:List (Nat × Nat)) (st:Nat):Prop where
 tbl:∃ ba bb,TblAt w t ba bb PS NS
 mod:∃ F W0 g0,ModAt w M F W0 g0 PS.length NS.length fs st
 least:LeastN NS.length (goodR PS.length NS.length (rulesN PS NS l)) (fun r x=>(r,x)∈fs)
 steps:st≤2 * (rulesN PS NS l).length+fs.length * ((rulesN PS NS l).length * (PS.length+3))
theorem TmAt.rng {w:World} {t M:Nat} {PS NS:List ByteArray} {l:List St} {fs:List (Nat × Nat)} {st:Nat} (h:TmAt w t M PS NS l fs st):∀ f∈fs,f.2 < PS.length:=by
 obtain ⟨F,W0,g0,h2⟩:=h.mod
 exact fun f hf=>(h2.f.rng f hf).2
theorem TmAt.below {w w':World} {t M:Nat} {PS NS:List ByteArray} {l:List St} {fs:List (Nat × Nat)} {st:Nat} (h:TmAt w t M PS NS l fs st) (hb:Below w.heap.size w w'):TmAt w' t M PS NS l fs st:=by
 obtain ⟨ba,bb,h1⟩:=h.tbl
 obtain ⟨F,W0,g0,h2⟩:=h.mod
 exact ⟨⟨ba,bb,h1.below hb⟩,⟨F,W0,g0,h2.below hb⟩,h.least,h.steps⟩
theorem rulesN_len (a b:List ByteArray) (l:List St):(rulesN a b l).length≤l.length:=by
 have:=flatMap_le (ruleS a b) 1 (ruleS_len a b) l
 unfold rulesN
 omega
set_option maxRecDepth 100000 in
set_option maxHeartbeats 4000000 in
theorem low_Eval (v0 v1 v2 v3:Value) (l:List St) (g h:List Rl) (qs:List Qv) (w:World) (hp:PolAt w v0 v1 v2 v3 l g h qs) (hl:l.length≤100) (hg:g.length≤100) (hh:h.length≤100) (hq:qs.length≤100) (F:Qv→List ByteArray) (hF:WhoF w qs F)
  (hs:allLe l 4294967) (hT:TB w) (hps:(newB (allPrins l g h qs F)).length≤64) (hns:(newB (allNames l g h qs)).length≤64) :
  Calls Tryz.prog 68 #[pv v0 v1 v2 v3] w fun e w' => ∃ t M fs st,e=.returned (.tuple #[.pointer (some ⟨t,0,none⟩),.pointer (some ⟨M,0,none⟩)])∧TmAt w' t M (newB (allPrins l g h qs F)) (newB (allNames l g h qs)) (minS l h) fs st∧Below w.heap.size w w':=by
 have HT0:=Lib.hid (show OneAt w #[v0,v1,v2,v3] (w.alloc (.cells #[v0,v1,v2,v3] 26)) from ⟨Blk.new w _ _,(Below.refl _ _).alloc (Nat.le_refl _) _⟩)
 have TF:=Lib.hid (table_For v0 v1 v2 v3 (.slice none 0 0) l g h qs [] _ (hp.below HT0.out.low) hl hg hh hq F (hF.below HT0.out.low) (Sl.nil _ _).a (by simp))
 have MN:=Lib.hid (fun W (hb:Below w.heap.size w W)=>low_Minimal v0 v1 v2 v3 l g h qs W (hp.below hb) (by omega))
 have HTB:=Lib.hid hT
 have hml:=minS_len l h
 have hms:allLe (minS l h) 4294967:=fun s hs'=>hs s (List.mem_filter.1 hs').1
 have e1:newB (newB (allPrins l g h qs F)++[])=newB (allPrins l g h qs F):=by rw [List.append_nil,new_idem]
 have e2:newB (newB (allNames l g h qs))=newB (allNames l g h qs):=new_idem _
 rw [e1,e2] at TF
 generalize newB (allPrins l g h qs F)=PS at *
 generalize newB (allNames l g h qs)=NS at *
 generalize minS l h=ms at *
 obtain ⟨a0,c0,rfl⟩:=hp.rs.form
 obtain ⟨a1,c1,rfl⟩:=hp.rg.form
 obtain ⟨a2,c2,rfl⟩:=hp.rh.form
 obtain ⟨a3,c3,rfl⟩:=hp.rq.form
 have hrl:=rulesN_len PS NS ms
 clear hp hF hT e1 e2 hs
 go_enter Tryz.func68,Tryz.ntmps68
 go_wp2_with fail
 refine TF.out.mono ?_
 rintro e w1 ⟨t,ba,bb,rfl,ht,hb⟩
 have HT1:=Lib.hid (HT0.out.later hb)
 have HTb:=Lib.hid ht
 clear ht hb TF HT0
 go_wp2_with fail
 refine wp_region_held_drew (S:=(fun W => ∀ o,W.cell? ⟨w.heap.size,o,none⟩=(#[.slice a0 l.length c0,.slice a1 g.length c1,.slice a2 h.length c2,.slice a3 qs.length c3]:Array Value)[o]?)) (by kernel_rfl) HT1.out.drew.a.1 (fun hHeld=>?_)
 have HT:=HT1.out.drew
 have HTb:=Lib.hid (HTb.out.below (below_drew (Below.refl _ w1)))
 obtain ⟨wk,hwk⟩:∃ W,W=w1.drew:=⟨_,rfl⟩
 rw [← hwk] at HT HTb hHeld ⊢
 clear hwk
 (refine hyes 0 ?_);(refine hyes 1 ?_);(refine hyes 4 ?_);(refine hyes 7 ?_);(refine hyes 8 ?_);(try simp only [Act.put,List.setIfInBounds_toArray,List.set])
 (refine held_call 2 rfl (by kernel_rfl) (fun K hK=>?_);go_simp)
 go_at_call 53;refine (table_Prins HTb.out).mono ?_;rintro e w2 ⟨rfl,rfl⟩
 (refine hK.out _ _ (HT.a.1) (fun hHeld=>?_);clear hK K;(try simp only [Act.put,List.setIfInBounds_toArray,List.set]))
 (refine held_call 3 rfl (by kernel_rfl) (fun K hK=>?_);go_simp)
 go_at_call 130;refine (tab_Len ba PS _ HTb.out.ta).mono ?_;rintro e w2 ⟨rfl,rfl⟩
 (refine hK.out _ _ (HT.a.1) (fun hHeld=>?_);clear hK K;(try simp only [Act.put,List.setIfInBounds_toArray,List.set]))
 (refine held_call 5 rfl (by kernel_rfl) (fun K hK=>?_);go_simp)
 go_at_call 56;refine (table_Links HTb.out).mono ?_;rintro e w2 ⟨rfl,rfl⟩
 (refine hK.out _ _ (HT.a.1) (fun hHeld=>?_);clear hK K;(try simp only [Act.put,List.setIfInBounds_toArray,List.set]))
 (refine held_call 6 rfl (by kernel_rfl) (fun K hK=>?_);go_simp)
 go_at_call 130;refine (tab_Len bb NS _ HTb.out.tb).mono ?_;rintro e w2 ⟨rfl,rfl⟩
 (refine hK.out _ _ (HT.a.1) (fun hHeld=>?_);clear hK K;(try simp only [Act.put,List.setIfInBounds_toArray,List.set]))
 (refine held_call 9 rfl (by kernel_rfl) (fun K hK=>?_);go_simp)
 go_at_call 106;refine (MN.out _ HT.low).mono ?_;rintro e w3 ⟨v3,rfl,hs3,hb3⟩;have HT3:=HT.later hb3;have HTb3:=Lib.hid (HTb.out.below hb3);have HS3:=Lib.hid hs3;clear hs3 hb3
 (refine hK.out _ _ (HT3.a.1) (fun hHeld=>?_);clear hK K;(try simp only [Act.put,List.setIfInBounds_toArray,List.set]))
 (refine held_call 10 rfl (by kernel_rfl) (fun K hK=>?_);go_simp)
 go_at_call 157;refine (table_Rules v3 ms _ HTb3.out HS3.out.a hms (by omega)).mono ?_;rintro e w4 ⟨v4,rfl,ho4,hb4⟩;have HT4:=HT3.later hb4;have HTb4:=Lib.hid (HTb3.out.below hb4);have HS4:=Lib.hid (Sl.of_own ho4);clear ho4 hb4
 (refine hK.out _ _ (HT4.a.1) (fun hHeld=>?_);clear hK K;(try simp only [Act.put,List.setIfInBounds_toArray,List.set]))
 (refine held_call 11 rfl (by kernel_rfl) (fun K hK=>?_);go_simp)
 go_at_call 156;refine (sem_Eval PS.length NS.length v4 (rulesN PS NS ms) _ hps hns HS4.out.a (by omega) (HTB.out.below HT4.low)).mono ?_;rintro e w5 ⟨M,F5,W05,g05,fs,st,rfl,hm,hlst,hst,hb5⟩;have HT5:=HT4.later hb5;have HTb5:=Lib.hid (HTb4.out.below hb5);have HM5:=Lib.hid hm;have HL5:=Lib.hid hlst;have HS5:=Lib.hid hst;clear hm hlst hst hb5
 (refine hK.out _ _ (HT5.a.1) (fun hHeld=>?_);clear hK K;(try simp only [Act.put,List.setIfInBounds_toArray,List.set]))
 (refine hyes 12 ?_);(refine hyes 13 ?_);(try simp only [Act.put,List.setIfInBounds_toArray,List.set])
 refine wpAnyH_done (by kernel_rfl) ?_ _
 have HT:=Lib.hid HT5
 clear HT5
 go_wp2
 go_ret2
 exact ⟨t,M,fs,st,rfl,⟨⟨ba,bb,HTb5.out⟩,⟨F5,W05,g05,HM5.out⟩,HL5.out,HS5.out⟩,HT.out.low⟩
def whoN (PS:List ByteArray) (cs:List Nat):List ByteArray:=cs.map (fun (c:Nat)=>atB PS (c:Int))
end
section
open Go.RowKit Go.Shelf

end
section
open Go.RowKit Go.Shelf

def CAt (w:World) (b:Nat) (cs:Array Value) (t:TypeId):Prop:=w.heap[b]? = some (.cells cs t (0,0))
theorem CAt.blk {w:World} {b:Nat} {cs:Array Value} {t:TypeId} (h:CAt w b cs t):Blk w b cs:=blk_of h
theorem CAt.lt {w:World} {b:Nat} {cs:Array Value} {t:TypeId} (h:CAt w b cs t):b < w.heap.size:=(Array.getElem?_eq_some_iff.1 h).1
theorem CAt.below {w w':World} {b:Nat} {cs:Array Value} {t:TypeId} (h:CAt w b cs t) (hb:Below w.heap.size w w'):CAt w' b cs t:=(hb.block b h.lt).trans h
theorem CAt.alloc {w:World} {b:Nat} {cs:Array Value} {t:TypeId} (h:CAt w b cs t) (o:Obj):CAt (w.alloc o) b cs t:=h.below ((Below.refl _ _).alloc (Nat.le_refl _) o)
theorem CAt.grown {w w':World} {b base size n:Nat} {cs:Array Value} {t e:TypeId} {v:Value} {xs:List Value} (h:CAt w b cs t) (ho:w.ownsRow base e size v n xs) (hg:w.grownBy w' v.ownBlock) (ht:t≠e):CAt w' b cs t :=
 (hg.block b h.lt (own_tag ho h ht)).trans h
theorem own_far {w w':World} {b1 b2 s1 s2 n1 n2:Nat} {e1 e2:TypeId} {v1 v2:Value} {x1 x2:List Value} (h1:w.ownsRow b1 e1 s1 v1 n1 x1) (h2:w.ownsRow b2 e2 s2 v2 n2 x2) (hg:w.grownBy w' v2.ownBlock) (ht:e1≠e2):w'.ownsRow b1 e1 s1 v1 n1 x1:=by
 refine own_grown h1 hg (fun k hk=>?_)
 rcases h1.2 with ⟨rfl,_⟩ | ⟨g,cap,cur,rfl,_,hh,_⟩
 ·cases hk
 ·cases hk
  exact own_tag h2 hh ht
structure Found (ps qs:List Pr) (b:Bool):Prop where
 no:b=false→qs=ps
 yes:b=true→ps.length < qs.length
theorem Found.le {ps qs:List Pr} {b:Bool} (h:Found ps qs b):ps.length≤qs.length:=by
 cases b
 ·rw [h.no rfl];exact Nat.le_refl _
 ·exact Nat.le_of_lt (h.yes rfl)
def lenV:Value→Nat
 | .slice _ n _=>n
 | _=>0
def boolN:Value→Nat
 | .bool true=>1
 | _=>0
set_option maxRecDepth 100000 in
set_option maxHeartbeats 8000000 in
theorem ref11_Eval (va:Value) (l:List St) (N:Nat) (w:World) (ha:SlA w 9 va l.length (l.flatMap St.cells)) (hN:N≤2000) (hB:∀ ps:List Pr,ps.Nodup→SoundS l ps→ps.length≤N) :
  Calls Tryz.prog 44 #[va] w fun e w' => ∃ (v:Value) (ps:List Pr),e=.returned v∧w'.ownsRow w.heap.size 78 3 v ps.length (ps.flatMap pcells)∧LeastS l (fun r x=>(r,x)∈ps)∧ps.Nodup∧ps.length≤N∧Below w.heap.size w w':=by
 have HA:=Lib.hid ha
 have HBd:=Lib.hid hB
 have hmax:=ha.max
 obtain ⟨a0,c0,rfl⟩:=ha.form
 clear ha hB
 go_enter Tryz.func44,Tryz.ntmps44
 go_wp2_with fail
 go_loopw [3,4] (fun vo bv wr => ∃ (ps:List Pr) (b:Bool),bv=.bool b∧Hid ps.Nodup∧Hid (SoundS l ps)∧Hid (Below w.heap.size w wr)∧Hid (wr.ownsRow w.heap.size 78 3 vo ps.length (ps.flatMap pcells))∧Hid (b=false→∀ s∈l,∀ x∈followsR ps s,(s.h,x)∈ps)) (fun vo bv _=>2 * (N - lenV vo)+boolN bv)
 case atStart=>exact ⟨[],true,rfl,Lib.hid List.nodup_nil,Lib.hid (fun _ _ _ h=>by cases h),Lib.hid (Below.refl _ _),Lib.hid (World.ownsRow_nil _ _ _ _),Lib.hid (fun h=>by cases h)⟩
 case round =>
  obtain ⟨ps,b,rfl,HND,HSo,HB,HO,HCl⟩:=hrel
  obtain ⟨oo,oc,rfl⟩:=own_form HO.out
  have hpl:=HBd.out ps HND.out HSo.out
  cases b with
  | false =>
   have HL:=Lib.hid (show LeastS l (fun r x=>(r,x)∈ps) from ⟨follows_clo (HCl.out rfl),fun E hE r x h=>HSo.out E hE (r,x) h⟩)
   clear HCl
   go_wp2_with fail
   go_ret
   exact ⟨_,ps,rfl,HO.out,HL.out,HND.out,hpl,HB.out⟩
  | true =>
   clear HCl
   go_wp2_with fail
   obtain ⟨wq,hwq⟩:∃ V,V=wr:=⟨_,rfl⟩
   subst hwq
   go_loopw [3,4,12] (fun vo bv i wr => ∃ (n:Nat) (qs:List Pr) (b:Bool),n≤l.length∧i=.int .i64 n∧bv=.bool b∧Hid qs.Nodup∧Hid (SoundS l qs)∧Hid (Below w.heap.size w wr)∧Hid (wr.ownsRow w.heap.size 78 3 vo qs.length (qs.flatMap pcells))∧Hid (Found ps qs b)∧Hid (b=false→∀ s∈l.take n,∀ x∈followsR ps s,(s.h,x)∈ps)) (fun _ _ i _=>l.length - (intOf i).toNat)
   case atStart=>exact ⟨0,ps,false,by omega,rfl,rfl,HND,HSo,HB,HO,Lib.hid ⟨fun _=>rfl,fun h=>by cases h⟩,Lib.hid (fun _ s hs=>by simp at hs)⟩
   case round =>
    clear HND HSo HB HO
    obtain ⟨n,qs,b,hnle,rfl,rfl,HND,HSo,HB,HO,HGr,HCl⟩:=hrel
    obtain ⟨oo,oc,rfl⟩:=own_form HO.out
    have hql:=HBd.out qs HND.out HSo.out
    by_cases hlt:n < l.length
    ·obtain ⟨b1,o1,e1,he1,hc1,hm1',hb1,hx1⟩:=HA.out.pos (by omega)
     simp only [Value.slice.injEq,true_and] at he1
     obtain ⟨rfl,rfl⟩:=he1
     obtain ⟨p0,p1,p2,p3,p4,p5,p6,p7,p8⟩:=st_cell (w:=wr) (fun j u hu=>(HB.out.cell (p:=⟨b1,o1+j,none⟩) hb1).trans (hx1 j u hu)) n hlt
     have hbr:b1 < wr.heap.size:=Nat.lt_of_lt_of_le hb1 HB.out.size
     have HTk:=Lib.hid (take_snoc hlt)
     have hsm:=List.getElem_mem hlt
     clear hx1
     generalize l[n]=s at *
     have FO:=Lib.hid (fun W (h:SlA W 3 (.slice oo qs.length oc) qs.length (qs.flatMap pcells))=>ref11_follows (.slice oo qs.length oc) qs s W h (by omega))
     have HSt:=Lib.hid (fun qs' (hq:SoundS l qs') x (hx:x∈followsR qs s)=>SoundS.step hq hsm HSo.out hx)
     generalize hxs:followsR qs s=xs at *
     have HXS:=Lib.hid hxs
     clear hsm hxs
     obtain ⟨xk,⟨x1,x2⟩,xw,⟨x3,x4⟩,⟨x5,x6⟩,xv⟩:=s
     have HS1:=Lib.hid (show CAt (wr.alloc (.cells #[.int .i64 xk,.string x1,.string x2,.string xw,.string x3,.string x4,.string x5,.string x6,.string xv] 74)) wr.heap.size #[.int .i64 xk,.string x1,.string x2,.string xw,.string x3,.string x4,.string x5,.string x6,.string xv] 74 from heap_new1 _ _)
     have HB1:=Lib.hid (HB.out.alloc HB.out.size (.cells #[.int .i64 xk,.string x1,.string x2,.string xw,.string x3,.string x4,.string x5,.string x6,.string xv] 74))
     have HO1:=Lib.hid (HO.out.alloc (.cells #[.int .i64 xk,.string x1,.string x2,.string xw,.string x3,.string x4,.string x5,.string x6,.string xv] 74))
     go_wp2_with fail
     refine (FO.out _ (Sl.of_own HO1.out).a).mono ?_
     rintro e w2 ⟨v2,rfl,hxo,hb2⟩
     obtain ⟨xa,xc,rfl⟩:=own_form hxo
     have HXO:=Lib.hid hxo
     have HS2:=Lib.hid (HS1.out.below hb2)
     have HO2:=Lib.hid (own_below HO1.out hb2)
     have HB2:=Lib.hid (HB1.out.trans (hb2.mono HB1.out.size))
     generalize hB0:(wr.alloc (.cells #[.int .i64 xk,.string x1,.string x2,.string xw,.string x3,.string x4,.string x5,.string x6,.string xv] 74)).heap.size=B0 at *
     have HXl:=Lib.hid (Sl.of_own hxo).max
     generalize hsb:wr.heap.size=sb at *
     have HND0:=HND
     have HSo0:=HSo
     clear hB0 hsb hxo hb2 HS1 HO1 HB1 HO HB p0 p1 p2 p3 p4 p5 p6 p7 p8 FO HND HSo
     go_wp2_with fail
     go_loopw [3,4,20] (fun vo bv i wr => ∃ (j:Nat) (rs:List Pr) (c:Bool),j≤xs.length∧i=.int .i64 j∧bv=.bool c∧Hid rs.Nodup∧Hid (SoundS l rs)∧Hid (Below w.heap.size w wr)∧Hid (wr.ownsRow w.heap.size 78 3 vo rs.length (rs.flatMap pcells))∧Hid (CAt wr sb #[.int .i64 xk,.string x1,.string x2,.string xw,.string x3,.string x4,.string x5,.string x6,.string xv] 74)∧Hid (wr.ownsRow B0 9 1 (.slice xa xs.length xc) xs.length (strs xs))∧Hid (Found ps rs c)∧Hid (c=false→b=false∧∀ x∈xs.take j,((⟨x1,x2⟩:Rl),x)∈ps)) (fun _ _ i _=>xs.length - (intOf i).toNat)
     case atStart=>exact ⟨0,qs,b,by omega,rfl,rfl,HND0,HSo0,HB2,HO2,HS2,HXO,HGr,Lib.hid (fun h=>⟨h,fun x hx=>by simp at hx⟩)⟩
     case round =>
      clear HND0 HSo0 HB2 HO2 HS2 HXO
      obtain ⟨j,rs,c,hjle,rfl,rfl,HND,HSo,HB,HO,HS,HXO,HGc,HCc⟩:=hrel
      obtain ⟨oo,oc,rfl⟩:=own_form HO.out
      have hrl:=HBd.out rs HND.out HSo.out
      obtain ⟨cs,fs,zs⟩:=HS.out.blk
      by_cases hlj:j < xs.length
      ·obtain ⟨b2,o2,e2,he2,hc2,hm2,hb2,hx2⟩:=(Sl.of_own HXO.out).pos (by omega)
       simp only [Value.slice.injEq,true_and] at he2
       obtain ⟨rfl,rfl⟩:=he2
       have q0:=hx2 j _ (strs_get hlj)
       have hxm:=List.getElem_mem hlj
       have HTj:=Lib.hid (take_snoc hlj)
       clear hx2
       generalize xs[j]=x at *
       have INx:=Lib.hid (ref11_In (.slice oo rs.length oc) rs ⟨x1,x2⟩ x wr (Sl.of_own HO.out).a)
       have HIF:=Lib.hid (hasP_iff (ps:=rs) (r:=⟨x1,x2⟩) (x:=x))
       have HSx:=Lib.hid (HSt.out rs HSo.out x hxm)
       clear hxm
       generalize hasP rs ⟨x1,x2⟩ x=t at *
       go_wp2_with fail
       refine INx.out.mono ?_
       rintro e w3 ⟨rfl,hb3⟩
       have HB3:=Lib.hid (HB.out.trans (hb3.mono HB.out.size))
       have HO3:=Lib.hid (own_below HO.out hb3)
       have HS3:=Lib.hid (HS.out.below hb3)
       have HXO3:=Lib.hid (own_below HXO.out hb3)
       clear hb3 INx HB HO HS HXO cs fs zs q0
       obtain ⟨cs,fs,zs⟩:=HS3.out.blk
       cases t with
       | true =>
        have hin:=HIF.out.1 rfl
        have HCd:=Lib.hid (show c=false→b=false∧∀ y∈xs.take (j+1),((⟨x1,x2⟩:Rl),y)∈ps from fun hc=>by
         obtain ⟨h1,h2⟩:=HCc.out hc
         refine ⟨h1,fun y hy=>?_⟩
         rw [HTj.out] at hy
         rcases List.mem_append.1 hy with hy | hy
         ·exact h2 y hy
         ·rw [List.mem_singleton.1 hy,← HGc.out.no hc];exact hin)
        clear HIF HSx HCc hin
        go_wp2_with fail
        exact ⟨⟨j+1,rs,c,by omega,by go_num,rfl,HND,HSo,HB3,HO3,HS3,HXO3,HGc,HCd⟩,by simp [intOf];omega⟩
       | false =>
        have hni:((⟨x1,x2⟩:Rl),x) ∉ rs:=fun h=>by have:=HIF.out.2 h;cases this
        have HND2:=Lib.hid (nodup_snoc HND.out hni)
        have HG2:=Lib.hid (show Found ps (rs++[((⟨x1,x2⟩:Rl),x)]) true from ⟨fun h=>by (cases h),fun _=>by have:=HGc.out.le;rw [List.length_append];simp;omega⟩)
        clear HIF HCc hni HGc
        go_wp2_with (at_builtin;refine halt_ ?_)
        unfold Halt_
        refine app_own Tryz.underlying75 pr_info rfl (by decide) (by decide) rfl _ _ rfl w.heap.size rfl (HO3.out.alloc _) [.string x1,.string x2,.string x] rfl (heap_new1 _ _) rfl (fun u hu=>prs_one [((⟨x1,x2⟩:Rl),x)] u (by simpa [pcells] using hu)) ?_ ?_ ?_
        ·omega
        ·have:=HB3.out.size;simp;omega
        intro a' cap' w4 hown' hgrow
        have HS4:=Lib.hid ((HS3.out.alloc (.cells #[.string x1,.string x2,.string x] 78)).grown (HO3.out.alloc _) hgrow (by decide))
        have HX4:=Lib.hid (own_far (HXO3.out.alloc (.cells #[.string x1,.string x2,.string x] 78)) (HO3.out.alloc _) hgrow (by decide))
        have HB4:=Lib.hid (below_own (HB3.out.alloc HB3.out.size (.cells #[.string x1,.string x2,.string x] 78)) (HO3.out.alloc _) hgrow (HB3.out.alloc HB3.out.size _).size (Nat.le_refl _))
        have HO4:=Lib.hid (show w4.ownsRow w.heap.size 78 3 (.slice a' (rs.length+1) cap') (rs++[((⟨x1,x2⟩:Rl),x)]).length ((rs++[((⟨x1,x2⟩:Rl),x)]).flatMap pcells) by rw [List.length_append,List.flatMap_append];simpa [pcells] using hown')
        clear hown' hgrow HS3 HXO3 HB3 HO3 cs fs zs
        obtain ⟨cs,fs,zs⟩:=HS4.out.blk
        go_wp2_with fail
        exact ⟨⟨j+1,rs++[((⟨x1,x2⟩:Rl),x)],true,by omega,by go_num,rfl,HND2,HSx,HB4,HO4,HS4,HX4,HG2,Lib.hid (fun h=>by cases h)⟩,by simp [intOf];omega⟩
      ·have HCd:=Lib.hid (show c=false→∀ s∈l.take (n+1),∀ x∈followsR ps s,(s.h,x)∈ps from fun hc=>by
        obtain ⟨h1,h2⟩:=HCc.out hc
        intro s hs
        rw [HTk.out] at hs
        rcases List.mem_append.1 hs with hs | hs
        ·exact HCl.out h1 s hs
        ·rw [List.mem_singleton.1 hs]
         intro x hx
         refine h2 x ?_
         rw [List.take_of_length_le (show xs.length≤j by omega),← HXS.out,HGr.out.no h1]
         exact hx)
       clear HCc HXS
       go_wp2_with fail
       exact ⟨⟨n+1,rs,c,by omega,by go_num,rfl,HND,HSo,HB,HO,HGc,HCd⟩,by simp [intOf];omega⟩
    ·have HCd:=Lib.hid (show b=false→∀ s∈l,∀ x∈followsR qs s,(s.h,x)∈qs from fun hb s hs x hx=>by
      have h1:=HGr.out.no hb
      have h2:=HCl.out hb
      rw [List.take_of_length_le (show l.length≤n by omega)] at h2
      rw [h1] at hx ⊢
      exact h2 s hs x hx)
     have hmeas:2 * (N - qs.length)+(if b=true then 1 else 0) < 2 * (N - ps.length)+1:=by
      cases b with
      | false=>rw [HGr.out.no rfl];simp
      | true=>have:=HGr.out.yes rfl;simp;omega
     go_wp2_with fail
     exact ⟨⟨qs,b,rfl,HND,HSo,HB,HO,HCd⟩,by cases b <;> simpa [lenV,boolN] using hmeas⟩
end
section
open Go.RowKit Go.Shelf

structure InAB (a b:List ByteArray) (s:St):Prop where
 r:∀ x∈rolesS s,x.o∈a∧x.n∈b
 w:∀ x∈whoS s,x∈a
 v:∀ x∈viaS s,x∈b
theorem place_in {a:List ByteArray} {x:ByteArray} (h:x∈a):0≤placeB a x:=by
 unfold placeB;rw [if_pos ((hasB_mem' a x).2 h)];exact Int.natCast_nonneg _
theorem roleN_in {a b:List ByteArray} {r:Rl} (h:r.o∈a∧r.n∈b):0≤roleN a b r:=by
 have h1:=place_in h.1
 have h2:=place_in h.2
 unfold roleN
 rw [if_neg (by omega)]
 exact Int.add_nonneg (Int.mul_nonneg h1 (Int.natCast_nonneg _)) h2
theorem right_kinds {s:St} (h:rightS s=true):s.k=1∨s.k=2∨s.k=3∨s.k=4:=by
 unfold rightS at h
 by_cases h1:s.k=1
 ·exact .inl h1
 by_cases h2:s.k=2
 ·exact .inr (.inl h2)
 by_cases h3:s.k=3
 ·exact .inr (.inr (.inl h3))
 by_cases h4:s.k=4
 ·exact .inr (.inr (.inr h4))
 rw [if_neg h1,if_neg h2,if_neg h3,if_neg h4,Bool.and_false] at h
 cases h
theorem ruleN_in {a b:List ByteArray} {s:St} (hr:rightS s=true) (h:InAB a b s):(ruleN a b s).2=true:=by
 have hh:s.h∈rolesS s:=by
  unfold rolesS
  split
  ·simp
  ·split <;> simp
 have hok:ruleOk (ruleR a b s)=true:=by
  unfold ruleOk
  rw [decide_eq_true_iff]
  simp only [ruleR]
  refine ⟨roleN_in (h.r _ hh),?_,?_,?_,?_⟩
  ·split
   ·rename_i e;exact place_in (h.w _ (by unfold whoS;rw [if_pos e];simp))
   ·exact Int.le_refl _
  ·split
   ·exact Int.le_refl _
   ·rename_i e
    refine roleN_in (h.r _ ?_)
    unfold rolesS
    rcases right_kinds hr with e1 | e2 | e3 | e4
    ·exact absurd e1 e
    ·rw [if_pos (.inl e2)];simp
    ·rw [if_pos (.inr e3)];simp
    ·rw [if_neg (by omega),if_pos e4];simp
  ·split
   ·rename_i e
    refine roleN_in (h.r _ ?_)
    unfold rolesS
    rw [if_neg (by omega),if_pos e];simp
   ·exact Int.le_refl _
  ·split
   ·rename_i e;exact place_in (h.v _ (by unfold viaS;rw [if_pos e];simp))
   ·exact Int.le_refl _
 rw [ruleN_ok hr hok]
theorem rule_okRu {a b:List ByteArray} {s:St} (na:a.length≤1000) (nb:b.length≤1000) (h:(ruleN a b s).2=true):okRu a.length b.length (ruleN a b s).1=true:=by
 cases hc:okRu a.length b.length (ruleN a b s).1 with
 | true=>rfl
 | false =>
  have h1:=stmt_rule na nb h
  rw [stmtN_no hc] at h1
  cases h1
theorem good_rules {a b:List ByteArray} {l:List St} (na:a.length≤1000) (nb:b.length≤1000) (h:∀ s∈l,(ruleN a b s).2=true):goodR a.length b.length (rulesN a b l)=l.map fun s=>(ruleN a b s).1:=by
 have e:rulesN a b l=l.map fun s=>(ruleN a b s).1:=by
  unfold rulesN
  induction l with
  | nil=>rfl
  | cons s r ih =>
   rw [List.flatMap_cons,List.map_cons,ih (fun x hx=>h x (List.mem_cons_of_mem _ hx))]
   unfold ruleS
   rw [if_pos (h s (List.mem_cons_self ..))]
   rfl
 rw [e]
 unfold goodR
 rw [List.filter_eq_self]
 intro r hr
 obtain ⟨s,hs,rfl⟩:=List.mem_map.1 hr
 exact rule_okRu na nb (h s hs)
theorem asc_get {a:List ByteArray} (ha:AscB a) {i j:Nat} (hi:i < a.length) (hj:j < a.length) (h:i < j):cmpS a[i] a[j] < 0:=List.pairwise_iff_getElem.1 ha i j hi hj h
theorem whoN_asc {a:List ByteArray} (ha:AscB a) {cs:List Nat} (hc:cs.Pairwise (· < ·)) (hr:∀ c∈cs,c < a.length):AscB (whoN a cs):=by
 unfold whoN AscB
 rw [List.pairwise_map]
 refine hc.imp_of_mem (fun {x y} hx hy hxy=>?_)
 rw [atB_get (hr x hx),atB_get (hr y hy)]
 exact asc_get ha _ _ hxy
theorem model_members {a b:List ByteArray} {l:List St} (ha:AscB a) (hb:AscB b) (na:a.length≤64) (nb:b.length≤1000) (hok:∀ s∈l,(ruleN a b s).2=true) {ps:List Pr} (hD:LeastS l (fun r x=>(r,x)∈ps)) {fs:List (Nat × Nat)}
  (hE:LeastN b.length (goodR a.length b.length (rulesN a b l)) (fun r x=>(r,x)∈fs)) (hr:∀ f∈fs,f.2 < a.length) (r:Rl):whoN a (colsI fs (roleN a b r))=membersP ps r:=by
 rw [good_rules (by omega) nb hok] at hE
 obtain ⟨L1,L2⟩:=least_same ha hb hok hD hE
 have hasc:(colsI fs (roleN a b r)).Pairwise (· < ·):=by
  unfold colsI;split
  ·exact colsOf_asc _ _
  ·exact List.Pairwise.nil
 have hrg:∀ c∈colsI fs (roleN a b r),c < a.length:=by
  intro c hc
  unfold colsI at hc
  split at hc
  ·exact hr _ (colsOf_mem.1 hc).2
  ·cases hc
 refine asc_uniqueB _ _ (whoN_asc ha hasc hrg) (membersP_asc _ _) (fun y=>?_)
 rw [membersP_mem]
 unfold whoN
 rw [List.mem_map]
 constructor
 ·rintro ⟨c,hc,rfl⟩
  have hcl:=hrg c hc
  rw [atB_get hcl]
  unfold colsI at hc
  split at hc
  ·rename_i h0
   obtain ⟨i,j,hi,hj,rfl,e⟩:=role_at h0
   rw [e] at hc
   exact L2 i j c hi hj hcl (colsOf_mem.1 hc).2
  ·cases hc
 ·intro hy
  obtain ⟨i,j,k,hi,hj,hk,rfl,rfl,hx⟩:=L1 r y hy
  refine ⟨k,?_,atB_get hk⟩
  have h0:0≤roleN a b ⟨a[i],b[j]⟩:=roleN_in ⟨List.getElem_mem hi,List.getElem_mem hj⟩
  unfold colsI
  rw [if_pos h0,role_num ha hb hi hj]
  exact colsOf_mem.2 ⟨by omega,hx⟩
theorem stmt_inAB {l:List St} {g h:List Rl} {qs:List Qv} {F:Qv→List ByteArray} {s:St} (hs:s∈l):InAB (newB (allPrins l g h qs F)) (newB (allNames l g h qs)) s:=by
 have hr:∀ x∈rolesS s,x∈allRoles l g h qs:=fun x hx=>by
  unfold allRoles
  refine List.mem_append.2 (.inl (List.mem_append.2 (.inl (List.mem_append.2 (.inl ?_)))))
  exact List.mem_flatMap.2 ⟨s,hs,hx⟩
 refine ⟨fun x hx=>⟨?_,?_⟩,fun x hx=>?_,fun x hx=>?_⟩
 ·rw [new_mem];unfold allPrins
  exact List.mem_append.2 (.inl (List.mem_append.2 (.inl (List.mem_map.2 ⟨x,hr x hx,rfl⟩))))
 ·rw [new_mem];unfold allNames
  exact List.mem_append.2 (.inl (List.mem_map.2 ⟨x,hr x hx,rfl⟩))
 ·rw [new_mem];unfold allPrins
  exact List.mem_append.2 (.inl (List.mem_append.2 (.inr (List.mem_flatMap.2 ⟨s,hs,hx⟩))))
 ·rw [new_mem];unfold allNames
  exact List.mem_append.2 (.inr (List.mem_flatMap.2 ⟨s,hs,hx⟩))
end
section
open Go.RowKit Go.Shelf

def decL (n:Nat):List UInt8:=if n < 10 then [UInt8.ofNat (48+n)] else decL (n / 10)++[UInt8.ofNat (48+n % 10)]
termination_by n
decreasing_by omega
theorem decL_small {n:Nat} (h:n < 10):decL n=[UInt8.ofNat (48+n)]:=by rw [decL,if_pos h]
theorem decL_big {n:Nat} (h:¬ n < 10):decL n=decL (n / 10)++decL (n % 10):=by
 rw [decL,if_neg h,decL_small (n:=n % 10) (by omega)]
def valL (l:List UInt8):Nat:=l.foldl (fun a c=>a * 10+(c.toNat - 48)) 0
theorem val_dec (n:Nat):valL (decL n)=n:=by
 induction n using Nat.strongRecOn with
 | ind n ih =>
  have hc:∀ d,d < 10→(UInt8.ofNat (48+d)).toNat - 48=d:=fun d hd=>by rw [UInt8.toNat_ofNat'];omega
  by_cases h:n < 10
  ·rw [decL_small h];simp only [valL,List.foldl_cons,List.foldl_nil];rw [hc n h];omega
  ·rw [decL,if_neg h]
   unfold valL
   rw [List.foldl_append]
   have:=ih (n / 10) (by omega)
   unfold valL at this
   rw [this]
   simp only [List.foldl_cons,List.foldl_nil]
   rw [hc _ (by omega)]
   omega
theorem dec_inj {m n:Nat} (h:decL m=decL n):m=n:=by rw [← val_dec m,h,val_dec]
theorem dec_len (n:Nat):(decL n).length≤n+1:=by
 induction n using Nat.strongRecOn with
 | ind n ih =>
  by_cases h:n < 10
  ·rw [decL_small h];simp
  ·rw [decL,if_neg h,List.length_append]
   have:=ih (n / 10) (by omega)
   simp only [List.length_cons,List.length_nil]
   omega
def xdec (k:Nat):ByteArray:=toBA (88 :: decL k)
theorem xdec_inj {m n:Nat} (h:xdec m=xdec n):m=n:=by
 have:=toBA_inj h
 exact dec_inj (List.cons.inj this).2
theorem xdec_few {l:List ByteArray} {k:Nat} (h:∀ j,1≤j→j < k→xdec j∈l):k≤l.length+1:=by
 have:=nodup_le ((List.range (k - 1)).map (fun j=>xdec (j+1))) l ?_ ?_
 ·rw [List.length_map,List.length_range] at this;omega
 ·unfold List.Nodup
  rw [List.pairwise_map]
  refine List.nodup_range.imp ?_
  intro a b hab e
  have:=xdec_inj e
  omega
 ·intro x hx
  obtain ⟨j,hj,rfl⟩:=List.mem_map.1 hx
  have:=List.mem_range.1 hj
  exact h (j+1) (by omega) (by omega)
def IsFresh (l:List ByteArray) (x:ByteArray):Prop:=∃ k,1≤k∧(∀ j,1≤j→j < k→xdec j∈l)∧xdec k ∉ l∧x=xdec k
theorem fresh_uniq {l:List ByteArray} {x y:ByteArray} (h:IsFresh l x) (g:IsFresh l y):x=y:=by
 obtain ⟨k,h1,h2,h3,rfl⟩:=h
 obtain ⟨m,g1,g2,g3,rfl⟩:=g
 by_cases e1:k < m
 ·exact absurd (g2 k h1 e1) h3
 ·by_cases e2:m < k
  ·exact absurd (h2 m g1 e2) g3
  ·rw [show k=m by omega]
def freshFrom (l:List ByteArray):Nat→Nat→Nat
 | 0,k=>k
 | f+1,k=>if hasB l (xdec k)=true then freshFrom l f (k+1) else k
theorem freshFrom_is (l:List ByteArray):∀ f k,1≤k→(∀ j,1≤j→j < k→xdec j∈l)→l.length+2≤f+k→IsFresh l (xdec (freshFrom l f k)):=by
 intro f
 induction f with
 | zero =>
  intro k h1 h2 h3
  have:=xdec_few h2
  omega
 | succ f ih =>
  intro k h1 h2 h3
  unfold freshFrom
  by_cases hm:xdec k∈l
  ·rw [if_pos ((hasB_mem l _).2 hm)]
   refine ih (k+1) (by omega) (fun j a b=>?_) (by omega)
   by_cases e:j < k
   ·exact h2 j a e
   ·obtain rfl:j=k:=by omega
    exact hm
  ·rw [if_neg (fun h=>hm ((hasB_mem l _).1 h))]
   exact ⟨k,h1,h2,hm,rfl⟩
def freshB (l:List ByteArray):ByteArray:=xdec (freshFrom l (l.length+1) 1)
theorem freshB_is (l:List ByteArray):IsFresh l (freshB l):=freshFrom_is l _ 1 (Nat.le_refl _) (fun j a b=>by omega) (by omega)
theorem fresh_eq {l:List ByteArray} {x:ByteArray} (h:IsFresh l x):freshB l=x:=fresh_uniq (freshB_is l) h
theorem freshB_not (l:List ByteArray):freshB l ∉ l:=by
 obtain ⟨k,_,_,h,e⟩:=freshB_is l
 rw [e];exact h
theorem freshB_size (l:List ByteArray):(freshB l).size≤l.length+3:=by
 obtain ⟨k,_,h,_,e⟩:=freshB_is l
 have:=xdec_few h
 rw [e]
 have h2:=dec_len k
 unfold xdec toBA
 simp only [ByteArray.size,List.size_toArray,List.length_cons]
 omega
end
section
open Go.RowKit Go.Shelf

theorem toBA_app (a b:List UInt8):toBA (a++b)=toBA a++toBA b:=by
 apply ByteArray.ext
 simp [toBA]
theorem dec_size {n:Nat} (h:n≤100000):(toBA (decL n)).size≤4294967:=by
 have:=dec_len n
 unfold toBA
 simp only [ByteArray.size,List.size_toArray]
 omega
set_option maxRecDepth 100000 in
set_option maxHeartbeats 4000000 in
theorem names_dec (n:Nat) (hn:n≤100000):∀ w,Calls Tryz.prog 228 #[.int .i64 n] w fun e w'=>e=.returned (.string (toBA (decL n)))∧w'=w:=by
 induction n using Nat.strongRecOn with
 | ind n ih =>
 intro w
 by_cases h:n < 10
 ·have:n=0∨n=1∨n=2∨n=3∨n=4∨n=5∨n=6∨n=7∨n=8∨n=9:=by omega
  clear ih h hn
  rcases this with rfl | rfl | rfl | rfl | rfl | rfl | rfl | rfl | rfl | rfl
  ·show Calls Tryz.prog 228 #[.int .i64 0] w _
   go_enter Tryz.func228,Tryz.ntmps228
   go_wp2
   go_ret
   exact ⟨by rw [decL_small (by omega)];rfl,rfl⟩
  ·show Calls Tryz.prog 228 #[.int .i64 1] w _
   go_enter Tryz.func228,Tryz.ntmps228
   go_wp2
   go_ret
   exact ⟨by rw [decL_small (by omega)];rfl,rfl⟩
  ·show Calls Tryz.prog 228 #[.int .i64 2] w _
   go_enter Tryz.func228,Tryz.ntmps228
   go_wp2
   go_ret
   exact ⟨by rw [decL_small (by omega)];rfl,rfl⟩
  ·show Calls Tryz.prog 228 #[.int .i64 3] w _
   go_enter Tryz.func228,Tryz.ntmps228
   go_wp2
   go_ret
   exact ⟨by rw [decL_small (by omega)];rfl,rfl⟩
  ·show Calls Tryz.prog 228 #[.int .i64 4] w _
   go_enter Tryz.func228,Tryz.ntmps228
   go_wp2
   go_ret
   exact ⟨by rw [decL_small (by omega)];rfl,rfl⟩
  ·show Calls Tryz.prog 228 #[.int .i64 5] w _
   go_enter Tryz.func228,Tryz.ntmps228
   go_wp2
   go_ret
   exact ⟨by rw [decL_small (by omega)];rfl,rfl⟩
  ·show Calls Tryz.prog 228 #[.int .i64 6] w _
   go_enter Tryz.func228,Tryz.ntmps228
   go_wp2
   go_ret
   exact ⟨by rw [decL_small (by omega)];rfl,rfl⟩
  ·show Calls Tryz.prog 228 #[.int .i64 7] w _
   go_enter Tryz.func228,Tryz.ntmps228
   go_wp2
   go_ret
   exact ⟨by rw [decL_small (by omega)];rfl,rfl⟩
  ·show Calls Tryz.prog 228 #[.int .i64 8] w _
   go_enter Tryz.func228,Tryz.ntmps228
   go_wp2
   go_ret
   exact ⟨by rw [decL_small (by omega)];rfl,rfl⟩
  ·show Calls Tryz.prog 228 #[.int .i64 9] w _
   go_enter Tryz.func228,Tryz.ntmps228
   go_wp2
   go_ret
   exact ⟨by rw [decL_small (by omega)];rfl,rfl⟩
 ·have I1:=ih (n / 10) (by omega) (by omega) w
  have I2:=ih (n % 10) (by omega) (by omega) w
  rw [show ((n / 10:Nat):Int)=(n:Int) / 10 from Int.natCast_ediv n 10] at I1
  rw [show ((n % 10:Nat):Int)=(n:Int) % 10 from Int.natCast_emod n 10] at I2
  have I1:=Lib.hid I1
  have I2:=Lib.hid I2
  have E:=Lib.hid (show toBA (decL (n / 10))++toBA (decL (n % 10))=toBA (decL n) by rw [decL_big h,toBA_app])
  have d:decide ((n:Int) < 10)=false:=by rw [decide_eq_false_iff_not];omega
  have z1:(toBA (decL (n / 10))).size≤4294967:=dec_size (by omega)
  have z2:(toBA (decL (n % 10))).size≤4294967:=dec_size (by omega)
  generalize toBA (decL (n / 10))=y1 at *
  generalize toBA (decL (n % 10))=y2 at *
  clear ih
  go_enter Tryz.func228,Tryz.ntmps228
  go_wp2_with fail
  refine I1.out.mono ?_
  rintro e w1 ⟨rfl,rfl⟩
  go_wp2_with fail
  refine I2.out.mono ?_
  rintro e w2 ⟨rfl,rfl⟩
  go_wp2
  go_ret
  exact ⟨by rw [← E.out];rfl,rfl⟩
def FreshRel (l:List ByteArray) (w:World) (vo i:Value) (wr:World):Prop :=
 (∃ k:Nat,1≤k∧k≤l.length+2∧i=.int .i64 k∧vo=.slice none 0 0∧wr=w∧∀ j,1≤j→j < k→xdec j∈l) ∨
 ∃ (k:Nat) (b:Nat) (c:Nat),i=.int .i64 k∧vo=.slice (some ⟨b,0,none⟩) 1 c∧Sl wr 1 (.slice (some ⟨b,0,none⟩) 1 c) 1 [.string (freshB l)]∧Below w.heap.size w wr
set_option maxRecDepth 100000 in
set_option maxHeartbeats 4000000 in
theorem names_Fresh1 (b:Nat) (l:List ByteArray) (w:World) (h:TabAt w b l) (hl:AscB l) (hn:l.length≤1000) :
  Calls Tryz.prog 155 #[.pointer (some ⟨b,0,none⟩),.int .i64 1] w fun e w' => ∃ g c,e=.returned (.slice (some ⟨g,0,none⟩) 1 c)∧Sl w' 1 (.slice (some ⟨g,0,none⟩) 1 c) 1 [.string (freshB l)]∧Below w.heap.size w w':=by
 have FI:=Lib.hid (fun s=>tab_Find b l s w h hl (by omega))
 clear h hl
 go_enter Tryz.func155,Tryz.ntmps155
 go_wp2_with fail
 go_loopw [4,5] (fun vo i wr=>FreshRel l w vo i wr) (fun _ i _=>l.length+3 - (intOf i).toNat)
 case atStart=>exact .inl ⟨1,Nat.le_refl _,by omega,rfl,rfl,rfl,fun j a c=>by omega⟩
 case round =>
  rcases hrel with ⟨k,hk1,hk2,rfl,rfl,rfl,hall⟩ | ⟨k,g,c,rfl,rfl,hs,hb⟩
  ·have HALL:=Lib.hid hall
   have DC:=Lib.hid (names_dec k (by omega) wr)
   have z1:(toBA (decL k)).size≤4294967:=dec_size (by omega)
   have E:=Lib.hid (show ByteArray.mk #[88]++toBA (decL k)=xdec k by unfold xdec;rw [show 88 :: decL k=[88]++decL k from rfl,toBA_app];rfl)
   have hk3:xdec k ∉ l→k≤l.length+1:=fun _=>xdec_few hall
   have FS:=Lib.hid (fun (hf:xdec k ∉ l)=>fresh_eq ⟨k,hk1,hall,hf,rfl⟩)
   have PI:=Lib.hid (fun (hf:xdec k∈l)=>place_in hf)
   have PN:=Lib.hid (fun (hf:xdec k ∉ l)=>show placeB l (xdec k) = -1 by unfold placeB;rw [if_neg (fun e=>hf ((hasB_mem l _).1 e))])
   have FIk:=Lib.hid (FI.out (xdec k))
   have HN:=Lib.hid (fun (hf:xdec k∈l)=>show k+1≤l.length+2 by have:=xdec_few (l:=l) (k:=k+1) (fun j a c=>by by_cases e:j < k;exact hall j a e;rw [show j=k by omega];exact hf);omega)
   have HA2:=Lib.hid (fun (hf:xdec k∈l) j (a:1≤j) (c:j < k+1)=>show xdec j∈l by by_cases e:j < k;exact hall j a e;rw [show j=k by omega];exact hf)
   generalize xdec k=x at *
   generalize toBA (decL k)=y1 at *
   clear hall FI hk3
   by_cases hx:x∈l
   ·have hp:=PI.out hx
    have hn2:=HN.out hx
    have HA3:=Lib.hid (HA2.out hx)
    generalize placeB l x=pl at *
    have d:decide (pl < 0)=false:=by rw [decide_eq_false_iff_not];omega
    clear PI PN HN HA2 FS hx hp
    go_wp2_with fail
    refine DC.out.mono ?_
    rintro e w1 ⟨rfl,rfl⟩
    go_wp2_with fail
    rw [E.out]
    refine FIk.out.mono ?_
    rintro e w1 ⟨rfl,rfl⟩
    go_wp2_with fail
    exact ⟨.inl ⟨k+1,by omega,by omega,by go_num,rfl,rfl,HA3.out⟩,by simp [intOf];omega⟩
   ·have hp:=PN.out hx
    rw [hp] at FIk
    have FX:=Lib.hid (FS.out hx)
    clear PI PN HN HA2 FS hx hp
    go_wp2_with fail
    refine DC.out.mono ?_
    rintro e w1 ⟨rfl,rfl⟩
    go_wp2_with fail
    rw [E.out]
    refine FIk.out.mono ?_
    rintro e w1 ⟨rfl,rfl⟩
    go_wp2_with (at_builtin;refine halt_ ?_)
    unfold Halt_
    refine app_own Tryz.underlying38 str_info rfl (by decide) (by decide) rfl _ _ rfl w1.heap.size rfl (World.ownsRow_nil _ _ _ _) [.string x] rfl (heap_new1 _ _) rfl (str1 _) ?_ ?_ ?_
    ·omega
    ·simp
    intro a' cap' w6 hown' hgrow
    have HB6:=Lib.hid (show Below w1.heap.size w1 w6 from ((Below.refl _ _).alloc (Nat.le_refl _) (.cells #[.string x] 9)).trans ((below_of_none (show (w1.alloc (.cells #[.string x] 9)).grownBy w6 none from hgrow)).mono (by simp)))
    have HS6:=Lib.hid (Sl.of_own hown')
    obtain ⟨_,hf⟩ | ⟨g,cap,cur,hv,_⟩:=hown'.2
    ·omega
    simp only [Value.slice.injEq] at hv
    obtain ⟨rfl,_,rfl⟩:=hv
    clear hown' hgrow
    go_wp2_with fail
    exact ⟨.inr ⟨k+1,g,cap',by go_num,rfl,by rw [FX.out];exact HS6.out,HB6.out⟩,by simp [intOf];omega⟩
  ·have HS:=Lib.hid hs
   have HB:=Lib.hid hb
   clear hs hb
   go_wp2_with fail
   go_ret
   exact ⟨g,c,rfl,HS.out,HB.out⟩
end
section
open Go.RowKit Go.Shelf

section
variable {α:Type} {l:List α} {p:α→Bool}
end

def stays (h:List Rl) (m:List St) (s:St):Bool:=hasR h s.h && !hasS m s
end
end Go.Proofs.YtilgbodgmkmjjaaGreatDoor
