/- Parts: TabRule TabLaw2 SemLaw RefTab -/
import Derived.Test.YtilgbodgmkmjjaaGreatDoorPart6
import Derived.Test.YtilgbodgmkmjjaaGreatDoorPart5
import Derived.Test.YtilgbodgmkmjjaaGreatDoorPart3
namespace Go.Proofs.YtilgbodgmkmjjaaGreatDoor
section
open Go.RowKit Go.Shelf

theorem ruleN_no {a b:List ByteArray} {s:St} (h:rightS s=false):ruleN a b s=(noRu,false):=by unfold ruleN;rw [if_neg (fun h'=>by rw [h] at h';exact Bool.false_ne_true h'.1)]
theorem ruleN_bad {a b:List ByteArray} {s:St} (h:ruleOk (ruleR a b s)=false):ruleN a b s=(noRu,false):=by unfold ruleN;rw [if_neg (fun h'=>by rw [h] at h';exact Bool.false_ne_true h'.2)]
theorem ruleN_ok {a b:List ByteArray} {s:St} (h:rightS s=true) (h':ruleOk (ruleR a b s)=true):ruleN a b s=(ruleR a b s,true):=by unfold ruleN;rw [if_pos ⟨h,h'⟩]
theorem run_min5 {P:Program} (ts:Array TypeId) (t:TypeId) (x0 x1 x2 x3 x4:Int):∃ m,(∀ w,(Builtin.min_ ts t #[.int .i64 x0,.int .i64 x1,.int .i64 x2,.int .i64 x3,.int .i64 x4]).run P w=.ok (.int .i64 m) w)∧decide (m < 0) = !decide (0≤x0∧0≤x1∧0≤x2∧0≤x3∧0≤x4):=by
 obtain ⟨m1,h1⟩:∃ m,m=if x1 < x0 then x1 else x0:=⟨_,rfl⟩
 obtain ⟨m2,h2⟩:∃ m,m=if x2 < m1 then x2 else m1:=⟨_,rfl⟩
 obtain ⟨m3,h3⟩:∃ m,m=if x3 < m2 then x3 else m2:=⟨_,rfl⟩
 obtain ⟨m4,h4⟩:∃ m,m=if x4 < m3 then x4 else m3:=⟨_,rfl⟩
 refine ⟨m4,fun w=>?_,?_⟩
 ·simp [Builtin.min_,Builtin.min2,← h1,← h2,← h3,← h4]
 ·rw [Bool.eq_iff_iff,decide_eq_true_iff,Bool.not_eq_true',decide_eq_false_iff_not]
  split at h1 <;> split at h2 <;> split at h3 <;> split at h4 <;> omega
theorem TwoAt.new' (w:World) (A B:Array Value) (t u:TypeId):TwoAt w A B ((w.alloc (.cells A t)).alloc (.cells B u)) :=
 ⟨(Blk.new w A t).alloc _,by have:=Blk.new (w.alloc (.cells A t)) B u;simpa using this,((Below.refl _ _).alloc (Nat.le_refl _) _).alloc (by simp) _⟩

set_option maxRecDepth 100000 in
set_option maxHeartbeats 16000000 in
theorem table_RuleG (pt:Option Addr) (a b:List ByteArray) (w:World) (sa:AscB a) (sb:AscB b) (na:a.length≤10000) (nb:b.length≤10000)
  (RO:∀ r W,Below w.heap.size w W→Calls Tryz.prog 73 #[.pointer pt,rv r] W fun e w'=>e=.returned (.int .i64 (roleN a b r))∧Below W.heap.size W w')
  (PR:∀ W,Below w.heap.size w W→Calls Tryz.prog 53 #[.pointer pt] W fun e w' => ∃ q,e=.returned (.pointer (some ⟨q,0,none⟩))∧TabAt w' q a∧Below W.heap.size W w')
  (LK:∀ W,Below w.heap.size w W→Calls Tryz.prog 56 #[.pointer pt] W fun e w' => ∃ q,e=.returned (.pointer (some ⟨q,0,none⟩))∧TabAt w' q b∧Below W.heap.size W w') (s:St) (hs:s.le 4294967) :
  Calls Tryz.prog 128 #[.pointer pt,sv s] w fun e w'=>e=.returned (.tuple #[ruv (ruleN a b s).1,.bool (ruleN a b s).2])∧Below w.heap.size w w':=by
 have SR:=Lib.hid (fun W=>syn_Right s W hs)
 have RO:=Lib.hid RO
 have PR:=Lib.hid PR
 have LK:=Lib.hid LK
 have FA:=Lib.hid (fun s q W (h:TabAt W q a)=>tab_Find q a s W h sa (by omega))
 have FB:=Lib.hid (fun s q W (h:TabAt W q b)=>tab_Find q b s W h sb (by omega))
 clear sa sb na nb
 obtain ⟨k,⟨h1,h2⟩,who,⟨s1,s2⟩,⟨s3,s4⟩,via⟩:=s
 have HT:=Lib.hid (TwoAt.new' w #[.int .i64 k,.string h1,.string h2,.string who,.string s1,.string s2,.string s3,.string s4,.string via] #[.int .i64 0,.int .i64 0,.int .i64 0,.int .i64 0,.int .i64 0,.int .i64 0] 74 151)
 cases hr:rightS ⟨k,⟨h1,h2⟩,who,⟨s1,s2⟩,⟨s3,s4⟩,via⟩ with
 | false =>
  have R:=Lib.hid (ruleN_no (a:=a) (b:=b) hr)
  rw [hr] at SR
  clear hr
  go_enter Tryz.func128,Tryz.ntmps128
  go_wp2_with fail
  refine (SR.out _).mono ?_
  rintro e w1 ⟨rfl,hb⟩
  have HT:=Lib.hid (HT.out.later hb)
  clear hb
  obtain ⟨cb,fb,zb⟩:=HT.out.b
  go_wp2
  refine bodyPost_ret (v:=.tuple #[ruv noRu,.bool false]) (by simp [results,Tryz.results128,go_sem,noRu,cb]) rfl ⟨by rw [R.out],?_⟩
  exact below_puts (by omega) [.int .i64 0,.int .i64 0,.int .i64 0,.int .i64 0,.int .i64 0,.int .i64 0] 0 w1 HT.out.low
 | true =>
 rw [hr] at SR
 have RR:=Lib.hid (ruleN_ok (a:=a) (b:=b) hr)
 have RB:=Lib.hid (ruleN_bad (a:=a) (b:=b) (s:=⟨k,⟨h1,h2⟩,who,⟨s1,s2⟩,⟨s3,s4⟩,via⟩))
 have HR:=Lib.hid hr
 clear hr
 go_enter Tryz.func128,Tryz.ntmps128
 go_wp2_with fail
 refine (SR.out _).mono ?_
 rintro e w1 ⟨rfl,hb⟩
 have HT:=Lib.hid (HT.out.later hb)
 clear hb SR
 have RH:=Lib.hid (fun W hb=>RO.out ⟨h1,h2⟩ W hb)
 obtain ⟨rh,hrh⟩:∃ r,r=roleN a b ⟨h1,h2⟩:=⟨_,rfl⟩
 rw [← hrh] at RH
 have HRH:=Lib.hid hrh
 clear hrh
 go_upto_region 4 with fail
 go_cut [6] (fun s6 wx => ∃ b6:Nat,s6=.pointer (some ⟨b6,0,none⟩)∧w.heap.size+1 < b6∧Hid (TwoAt w #[.int .i64 k,.string h1,.string h2,.string who,.string s1,.string s2,.string s3,.string s4,.string via] #[.int .i64 0,.int .i64 0,.int .i64 0,.int .i64 0,.int .i64 0,.int .i64 0] wx)∧Hid (Blk wx b6 #[.int .i64 k,.int .i64 rh,.int .i64 0,.int .i64 0,.int .i64 0,.int .i64 0]))
 case first =>
  have HT:=HT.out
  obtain ⟨ca,fa,za⟩:=HT.a
  go_wp2_with fail
  clear ca fa za
  refine wp_region_held_drew (S:=(fun W => ∀ o,W.cell? ⟨w.heap.size,o,none⟩=(#[.int .i64 k,.string h1,.string h2,.string who,.string s1,.string s2,.string s3,.string s4,.string via]:Array Value)[o]?)) (by kernel_rfl) HT.drew.a.1 (fun hHeld=>?_)
  have HT:=HT.drew
  obtain ⟨wk,hwk⟩:∃ W,W=w1.drew:=⟨_,rfl⟩
  rw [← hwk] at HT hHeld ⊢
  clear hwk
  (refine hyes 0 ?_);(refine hyes 1 ?_);(refine hyes 2 ?_);(refine hyes 3 ?_);(refine hyes 4 ?_);(try simp only [Act.put,List.setIfInBounds_toArray,List.set])
  refine wpAnyH_ready (rs:=[5,7]) (by kernel_rfl) (by simp) (AllReadyH.cons rfl (fun K hK=>?_) (AllReadyH.cons rfl (fun K hK=>?_) AllReadyH.nil))
  ·go_simp
   go_at_call 73;refine (RH.out _ HT.low).mono ?_;rintro e wk1 ⟨rfl,hbq⟩
   have HT:=HT.later hbq
   clear hbq
   (refine hK.out _ _ (HT.a.1) (fun hHeld=>?_);clear hK K;(try simp only [Act.put,List.setIfInBounds_toArray,List.set]))
   (refine hyes 6 ?_);(try simp only [Act.put,List.setIfInBounds_toArray,List.set])
   (refine held_call 7 rfl (by kernel_rfl) (fun K hK=>?_);go_simp)
   obtain ⟨b6,hb6⟩:∃ b,b=wk1.heap.size:=⟨_,rfl⟩
   obtain ⟨wk2,hwn⟩:∃ V,V=wk1.alloc (.cells #[.int .i64 0,.int .i64 0,.int .i64 0,.int .i64 0,.int .i64 0,.int .i64 0] 151):=⟨_,rfl⟩
   rw [← hwn,← hb6]
   have H6:Blk wk2 b6 #[.int .i64 0,.int .i64 0,.int .i64 0,.int .i64 0,.int .i64 0,.int .i64 0]:=by rw [hwn,hb6];exact Blk.new _ _ _
   have lo6:w.heap.size+1 < b6:=by rw [hb6];exact HT.b.2.2
   have HT:TwoAt w #[.int .i64 k,.string h1,.string h2,.string who,.string s1,.string s2,.string s3,.string s4,.string via] #[.int .i64 0,.int .i64 0,.int .i64 0,.int .i64 0,.int .i64 0,.int .i64 0] wk2:=by rw [hwn];exact HT.alloc _
   clear hwn hb6
   (refine hK.out _ _ (HT.a.1) (fun hHeld=>?_);clear hK K;(try simp only [Act.put,List.setIfInBounds_toArray,List.set]))
   have Hc:=H6
   obtain ⟨cs,fs,zs⟩:=Hc
   (refine held_call 8 rfl (by kernel_rfl) (fun K hK=>?_);go_simp)
   clear cs fs zs
   generalize hw:((((((wk2.setCell ⟨b6,0,none⟩ (.int .i64 k)).setCell ⟨b6,1,none⟩ (.int .i64 rh)).setCell ⟨b6,2,none⟩ (.int .i64 0)).setCell ⟨b6,3,none⟩ (.int .i64 0)).setCell ⟨b6,4,none⟩ (.int .i64 0)).setCell ⟨b6,5,none⟩ (.int .i64 0))=wn
   have H6:Blk wn b6 #[.int .i64 k,.int .i64 rh,.int .i64 0,.int .i64 0,.int .i64 0,.int .i64 0]:=by rw [← hw];simpa using ((((((H6.put (o:=0) (v:=.int .i64 k) (by simp)).put (o:=1) (v:=.int .i64 rh) (by simp)).put (o:=2) (v:=.int .i64 0) (by simp)).put (o:=3) (v:=.int .i64 0) (by simp)).put (o:=4) (v:=.int .i64 0) (by simp)).put (o:=5) (v:=.int .i64 0) (by simp))
   have HT:TwoAt w #[.int .i64 k,.string h1,.string h2,.string who,.string s1,.string s2,.string s3,.string s4,.string via] #[.int .i64 0,.int .i64 0,.int .i64 0,.int .i64 0,.int .i64 0,.int .i64 0] wn:=by
    rw [← hw]
    exact ⟨HT.a.puts_far (g:=b6) (by omega) [.int .i64 k,.int .i64 rh,.int .i64 0,.int .i64 0,.int .i64 0,.int .i64 0] 0 wk2,HT.b.puts_far (g:=b6) (by omega) [.int .i64 k,.int .i64 rh,.int .i64 0,.int .i64 0,.int .i64 0,.int .i64 0] 0 wk2,below_puts (by omega) [.int .i64 k,.int .i64 rh,.int .i64 0,.int .i64 0,.int .i64 0,.int .i64 0] 0 wk2 HT.low⟩
   clear hw
   (refine hK.out _ _ (HT.a.1) (fun hHeld=>?_);clear hK K;(try simp only [Act.put,List.setIfInBounds_toArray,List.set]))
   refine wpAnyH_done (by kernel_rfl) ?_ _
   go_wp2_with fail
   go_meet
   exact ⟨b6,rfl,lo6,Lib.hid HT,Lib.hid H6⟩
  ·go_simp
   obtain ⟨b6,hb6⟩:∃ b,b=wk.heap.size:=⟨_,rfl⟩
   obtain ⟨wk1,hwn⟩:∃ V,V=wk.alloc (.cells #[.int .i64 0,.int .i64 0,.int .i64 0,.int .i64 0,.int .i64 0,.int .i64 0] 151):=⟨_,rfl⟩
   rw [← hwn,← hb6]
   have H6:Blk wk1 b6 #[.int .i64 0,.int .i64 0,.int .i64 0,.int .i64 0,.int .i64 0,.int .i64 0]:=by rw [hwn,hb6];exact Blk.new _ _ _
   have lo6:w.heap.size+1 < b6:=by rw [hb6];exact HT.b.2.2
   have HT:TwoAt w #[.int .i64 k,.string h1,.string h2,.string who,.string s1,.string s2,.string s3,.string s4,.string via] #[.int .i64 0,.int .i64 0,.int .i64 0,.int .i64 0,.int .i64 0,.int .i64 0] wk1:=by rw [hwn];exact HT.alloc _
   clear hwn hb6
   (refine hK.out _ _ (HT.a.1) (fun hHeld=>?_);clear hK K;(try simp only [Act.put,List.setIfInBounds_toArray,List.set]))
   (refine held_call 5 rfl (by kernel_rfl) (fun K hK=>?_);go_simp)
   go_at_call 73;refine (RH.out _ HT.low).mono ?_;rintro e wk2 ⟨rfl,hbq⟩
   have H6:=H6.below hbq
   have HT:=HT.later hbq
   clear hbq
   (refine hK.out _ _ (HT.a.1) (fun hHeld=>?_);clear hK K;(try simp only [Act.put,List.setIfInBounds_toArray,List.set]))
   (refine hyes 6 ?_);(try simp only [Act.put,List.setIfInBounds_toArray,List.set])
   have Hc:=H6
   obtain ⟨cs,fs,zs⟩:=Hc
   (refine held_call 8 rfl (by kernel_rfl) (fun K hK=>?_);go_simp)
   clear cs fs zs
   generalize hw:((((((wk2.setCell ⟨b6,0,none⟩ (.int .i64 k)).setCell ⟨b6,1,none⟩ (.int .i64 rh)).setCell ⟨b6,2,none⟩ (.int .i64 0)).setCell ⟨b6,3,none⟩ (.int .i64 0)).setCell ⟨b6,4,none⟩ (.int .i64 0)).setCell ⟨b6,5,none⟩ (.int .i64 0))=wn
   have H6:Blk wn b6 #[.int .i64 k,.int .i64 rh,.int .i64 0,.int .i64 0,.int .i64 0,.int .i64 0]:=by rw [← hw];simpa using ((((((H6.put (o:=0) (v:=.int .i64 k) (by simp)).put (o:=1) (v:=.int .i64 rh) (by simp)).put (o:=2) (v:=.int .i64 0) (by simp)).put (o:=3) (v:=.int .i64 0) (by simp)).put (o:=4) (v:=.int .i64 0) (by simp)).put (o:=5) (v:=.int .i64 0) (by simp))
   have HT:TwoAt w #[.int .i64 k,.string h1,.string h2,.string who,.string s1,.string s2,.string s3,.string s4,.string via] #[.int .i64 0,.int .i64 0,.int .i64 0,.int .i64 0,.int .i64 0,.int .i64 0] wn:=by
    rw [← hw]
    exact ⟨HT.a.puts_far (g:=b6) (by omega) [.int .i64 k,.int .i64 rh,.int .i64 0,.int .i64 0,.int .i64 0,.int .i64 0] 0 wk2,HT.b.puts_far (g:=b6) (by omega) [.int .i64 k,.int .i64 rh,.int .i64 0,.int .i64 0,.int .i64 0,.int .i64 0] 0 wk2,below_puts (by omega) [.int .i64 k,.int .i64 rh,.int .i64 0,.int .i64 0,.int .i64 0,.int .i64 0] 0 wk2 HT.low⟩
   clear hw
   (refine hK.out _ _ (HT.a.1) (fun hHeld=>?_);clear hK K;(try simp only [Act.put,List.setIfInBounds_toArray,List.set]))
   refine wpAnyH_done (by kernel_rfl) ?_ _
   go_wp2_with fail
   go_meet
   exact ⟨b6,rfl,lo6,Lib.hid HT,Lib.hid H6⟩
 case rest =>
  clear HT RH
  obtain ⟨b6,rfl,lo6,HT,H6⟩:=hcut
  rename World=>wc
  have HT:=HT.out
  have H6:=H6.out
  by_cases hk:k=1
  ·skip
   subst hk
   obtain ⟨ca,fa,za⟩:=HT.a
   go_wp2_with fail
   obtain ⟨pw,hpw⟩:∃ x,x=placeB a who:=⟨_,rfl⟩
   have FW:=Lib.hid (fun q W hb=>FA.out who q W hb)
   rw [← hpw] at FW
   have RV:ruleR a b ⟨1,⟨h1,h2⟩,who,⟨s1,s2⟩,⟨s3,s4⟩,via⟩=⟨1,rh,pw,0,0,0⟩:=by unfold ruleR;simp [HRH.out,hpw]
   clear ca fa za hpw
   refine wp_region_held_drew (S:=(fun W => ∀ o,W.cell? ⟨w.heap.size,o,none⟩=(#[.int .i64 1,.string h1,.string h2,.string who,.string s1,.string s2,.string s3,.string s4,.string via]:Array Value)[o]?)) (by kernel_rfl) HT.drew.a.1 (fun hHeld=>?_)
   have HT:=HT.drew
   have H6:=H6.below (below_drew (Below.refl _ _))
   obtain ⟨wk,hwk⟩:∃ W,W=wc.drew:=⟨_,rfl⟩
   rw [← hwk] at HT H6 hHeld ⊢
   clear hwk
   (refine hyes 0 ?_);(refine hyes 2 ?_);(refine hyes 3 ?_);(try simp only [Act.put,List.setIfInBounds_toArray,List.set])
   (refine held_call 1 rfl (by kernel_rfl) (fun K hK=>?_);go_simp)
   go_at_call 53;refine (PR.out _ HT.low).mono ?_;rintro e wq ⟨q,rfl,hta,hbq⟩;have H6:=H6.below hbq;have HT:=HT.later hbq;clear hbq
   (refine hK.out _ _ (HT.a.1) (fun hHeld=>?_);clear hK K;(try simp only [Act.put,List.setIfInBounds_toArray,List.set]))
   (refine held_call 4 rfl (by kernel_rfl) (fun K hK=>?_);go_simp)
   go_at_call 139;refine (FW.out _ _ hta).mono ?_;rintro e wq2 ⟨rfl,rfl⟩;clear hta
   (refine hK.out _ _ (HT.a.1) (fun hHeld=>?_);clear hK K;(try simp only [Act.put,List.setIfInBounds_toArray,List.set]))
   (refine hyes 5 ?_);(try simp only [Act.put,List.setIfInBounds_toArray,List.set])
   have Hc:=H6
   obtain ⟨cs,fs,zs⟩:=Hc
   (refine held_call 6 rfl (by kernel_rfl) (fun K hK=>?_);go_simp)
   clear cs fs zs
   generalize hw:(wq2.setCell ⟨b6,2,none⟩ (.int .i64 pw))=wn
   have H6:Blk wn b6 #[.int .i64 1,.int .i64 rh,.int .i64 pw,.int .i64 0,.int .i64 0,.int .i64 0]:=by rw [← hw];simpa using (H6.put (o:=2) (v:=.int .i64 pw) (by simp))
   have HT:TwoAt w #[.int .i64 1,.string h1,.string h2,.string who,.string s1,.string s2,.string s3,.string s4,.string via] #[.int .i64 0,.int .i64 0,.int .i64 0,.int .i64 0,.int .i64 0,.int .i64 0] wn:=by rw [← hw];exact ⟨(HT.a.far (by omega)),(HT.b.far (by omega)),(below_put HT.low (by omega))⟩
   clear hw
   (refine hK.out _ _ (HT.a.1) (fun hHeld=>?_);clear hK K;(try simp only [Act.put,List.setIfInBounds_toArray,List.set]))
   refine wpAnyH_done (by kernel_rfl) ?_ _
   have HT:=Lib.hid HT
   obtain ⟨cs,fs,zs⟩:=H6
   obtain ⟨mn,hmn,hmd0⟩:=run_min5 (P:=Tryz.prog) #[3,3,3,3,3] 3 rh pw 0 0 0
   have hmd:decide (mn < 0) = !ruleOk ⟨1,rh,pw,0,0,0⟩:=hmd0
   clear hmd0
   cases hok:ruleOk ⟨1,rh,pw,0,0,0⟩ with
   | false =>
    have R:=Lib.hid (RB.out (by rw [RV];exact hok))
    have d:decide (mn < 0)=true:=by rw [hmd,hok];rfl
    obtain ⟨cb,fb,zb⟩:=HT.out.b
    clear hmd hok RV
    go_wp2
    refine bodyPost_ret (v:=.tuple #[ruv noRu,.bool false]) (by simp [results,Tryz.results128,go_sem,noRu,cb]) rfl ⟨by rw [R.out],?_⟩
    exact below_puts (by omega) [.int .i64 0,.int .i64 0,.int .i64 0,.int .i64 0,.int .i64 0,.int .i64 0] 0 wn HT.out.low
   | true =>
    have R:=Lib.hid (RR.out (by rw [RV];exact hok))
    have d:decide (mn < 0)=false:=by rw [hmd,hok];rfl
    have RV:=Lib.hid RV
    obtain ⟨cb,fb,zb⟩:=HT.out.b
    clear hmd hok
    go_wp2
    refine bodyPost_ret (v:=.tuple #[ruv ⟨1,rh,pw,0,0,0⟩,.bool true]) (by simp [results,Tryz.results128,go_sem,cb]) rfl ⟨by rw [R.out,RV.out],?_⟩
    exact below_puts (by omega) [.int .i64 1,.int .i64 rh,.int .i64 pw,.int .i64 0,.int .i64 0,.int .i64 0] 0 wn HT.out.low
  have n1:=hk
  clear hk
  by_cases hk:k=2
  ·skip
   subst hk
   obtain ⟨ca,fa,za⟩:=HT.a
   go_wp2_with fail
   obtain ⟨ra,hra⟩:∃ x,x=roleN a b ⟨s1,s2⟩:=⟨_,rfl⟩
   have RA:=Lib.hid (fun W hb=>RO.out ⟨s1,s2⟩ W hb)
   rw [← hra] at RA
   have RV:ruleR a b ⟨2,⟨h1,h2⟩,who,⟨s1,s2⟩,⟨s3,s4⟩,via⟩=⟨2,rh,0,ra,0,0⟩:=by unfold ruleR;simp [HRH.out,hra]
   clear hra
   refine (RA.out _ HT.low).mono ?_
   rintro e wq2 ⟨rfl,hb⟩
   have HT:=HT.later hb
   have H6:=H6.below hb
   clear hb ca fa za
   have Hc:=H6
   obtain ⟨cs,fs,zs⟩:=Hc
   go_upto_region 13 with fail
   clear cs fs zs
   generalize hw:(wq2.setCell ⟨b6,3,none⟩ (.int .i64 ra))=wn
   have H6:Blk wn b6 #[.int .i64 2,.int .i64 rh,.int .i64 0,.int .i64 ra,.int .i64 0,.int .i64 0]:=by rw [← hw];simpa using (H6.put (o:=3) (v:=.int .i64 ra) (by simp))
   have HT:TwoAt w #[.int .i64 2,.string h1,.string h2,.string who,.string s1,.string s2,.string s3,.string s4,.string via] #[.int .i64 0,.int .i64 0,.int .i64 0,.int .i64 0,.int .i64 0,.int .i64 0] wn:=by rw [← hw];exact ⟨(HT.a.far (by omega)),(HT.b.far (by omega)),(below_put HT.low (by omega))⟩
   clear hw
   have HT:=Lib.hid HT
   obtain ⟨cs,fs,zs⟩:=H6
   obtain ⟨mn,hmn,hmd0⟩:=run_min5 (P:=Tryz.prog) #[3,3,3,3,3] 3 rh 0 ra 0 0
   have hmd:decide (mn < 0) = !ruleOk ⟨2,rh,0,ra,0,0⟩:=hmd0
   clear hmd0
   cases hok:ruleOk ⟨2,rh,0,ra,0,0⟩ with
   | false =>
    have R:=Lib.hid (RB.out (by rw [RV];exact hok))
    have d:decide (mn < 0)=true:=by rw [hmd,hok];rfl
    obtain ⟨cb,fb,zb⟩:=HT.out.b
    clear hmd hok RV
    go_wp2
    refine bodyPost_ret (v:=.tuple #[ruv noRu,.bool false]) (by simp [results,Tryz.results128,go_sem,noRu,cb]) rfl ⟨by rw [R.out],?_⟩
    exact below_puts (by omega) [.int .i64 0,.int .i64 0,.int .i64 0,.int .i64 0,.int .i64 0,.int .i64 0] 0 wn HT.out.low
   | true =>
    have R:=Lib.hid (RR.out (by rw [RV];exact hok))
    have d:decide (mn < 0)=false:=by rw [hmd,hok];rfl
    have RV:=Lib.hid RV
    obtain ⟨cb,fb,zb⟩:=HT.out.b
    clear hmd hok
    go_wp2
    refine bodyPost_ret (v:=.tuple #[ruv ⟨2,rh,0,ra,0,0⟩,.bool true]) (by simp [results,Tryz.results128,go_sem,cb]) rfl ⟨by rw [R.out,RV.out],?_⟩
    exact below_puts (by omega) [.int .i64 2,.int .i64 rh,.int .i64 0,.int .i64 ra,.int .i64 0,.int .i64 0] 0 wn HT.out.low
  have n2:=hk
  clear hk
  by_cases hk:k=3
  ·skip
   subst hk
   obtain ⟨ca,fa,za⟩:=HT.a
   go_wp2_with fail
   obtain ⟨ra,hra⟩:∃ x,x=roleN a b ⟨s1,s2⟩:=⟨_,rfl⟩
   have RA:=Lib.hid (fun W hb=>RO.out ⟨s1,s2⟩ W hb)
   rw [← hra] at RA
   obtain ⟨pv,hpv⟩:∃ x,x=placeB b via:=⟨_,rfl⟩
   have FV:=Lib.hid (fun q W hb=>FB.out via q W hb)
   rw [← hpv] at FV
   have RV:ruleR a b ⟨3,⟨h1,h2⟩,who,⟨s1,s2⟩,⟨s3,s4⟩,via⟩=⟨3,rh,0,ra,0,pv⟩:=by unfold ruleR;simp [HRH.out,hra,hpv]
   clear ca fa za hpv hra
   refine wp_region_held_drew (S:=(fun W => ∀ o,W.cell? ⟨w.heap.size,o,none⟩=(#[.int .i64 3,.string h1,.string h2,.string who,.string s1,.string s2,.string s3,.string s4,.string via]:Array Value)[o]?)) (by kernel_rfl) HT.drew.a.1 (fun hHeld=>?_)
   have HT:=HT.drew
   have H6:=H6.below (below_drew (Below.refl _ _))
   obtain ⟨wk,hwk⟩:∃ W,W=wc.drew:=⟨_,rfl⟩
   rw [← hwk] at HT H6 hHeld ⊢
   clear hwk
   (refine hyes 0 ?_);(refine hyes 1 ?_);(refine hyes 2 ?_);(refine hyes 4 ?_);(refine hyes 6 ?_);(refine hyes 7 ?_);(try simp only [Act.put,List.setIfInBounds_toArray,List.set])
   (refine held_call 3 rfl (by kernel_rfl) (fun K hK=>?_);go_simp)
   go_at_call 73;refine (RA.out _ HT.low).mono ?_;rintro e wq ⟨rfl,hbq⟩;have H6:=H6.below hbq;have HT:=HT.later hbq;clear hbq
   (refine hK.out _ _ (HT.a.1) (fun hHeld=>?_);clear hK K;(try simp only [Act.put,List.setIfInBounds_toArray,List.set]))
   (refine hyes 9 ?_);(try simp only [Act.put,List.setIfInBounds_toArray,List.set])
   (refine held_call 5 rfl (by kernel_rfl) (fun K hK=>?_);go_simp)
   go_at_call 56;refine (LK.out _ HT.low).mono ?_;rintro e wq2 ⟨q,rfl,htb,hbq⟩;have H6:=H6.below hbq;have HT:=HT.later hbq;clear hbq
   (refine hK.out _ _ (HT.a.1) (fun hHeld=>?_);clear hK K;(try simp only [Act.put,List.setIfInBounds_toArray,List.set]))
   (refine held_call 8 rfl (by kernel_rfl) (fun K hK=>?_);go_simp)
   go_at_call 139;refine (FV.out _ _ htb).mono ?_;rintro e wq3 ⟨rfl,rfl⟩;clear htb
   (refine hK.out _ _ (HT.a.1) (fun hHeld=>?_);clear hK K;(try simp only [Act.put,List.setIfInBounds_toArray,List.set]))
   have Hc:=H6
   obtain ⟨cs,fs,zs⟩:=Hc
   (refine held_call 10 rfl (by kernel_rfl) (fun K hK=>?_);go_simp)
   clear cs fs zs
   generalize hw:wq3.setCell ⟨b6,3,none⟩ (.int .i64 ra)=wp
   have H6:Blk wp b6 #[.int .i64 3,.int .i64 rh,.int .i64 0,.int .i64 ra,.int .i64 0,.int .i64 0]:=by rw [← hw];simpa using H6.put (o:=3) (v:=.int .i64 ra) (by simp)
   have HT:TwoAt w #[.int .i64 3,.string h1,.string h2,.string who,.string s1,.string s2,.string s3,.string s4,.string via] #[.int .i64 0,.int .i64 0,.int .i64 0,.int .i64 0,.int .i64 0,.int .i64 0] wp:=by rw [← hw];exact ⟨HT.a.far (by omega),HT.b.far (by omega),below_put HT.low (by omega)⟩
   clear hw
   (refine hK.out _ _ (HT.a.1) (fun hHeld=>?_);clear hK K;(try simp only [Act.put,List.setIfInBounds_toArray,List.set]))
   (refine hyes 11 ?_);(try simp only [Act.put,List.setIfInBounds_toArray,List.set])
   have Hc:=H6
   obtain ⟨cs,fs,zs⟩:=Hc
   (refine held_call 12 rfl (by kernel_rfl) (fun K hK=>?_);go_simp)
   clear cs fs zs
   generalize hw:(wp.setCell ⟨b6,5,none⟩ (.int .i64 pv))=wn
   have H6:Blk wn b6 #[.int .i64 3,.int .i64 rh,.int .i64 0,.int .i64 ra,.int .i64 0,.int .i64 pv]:=by rw [← hw];simpa using (H6.put (o:=5) (v:=.int .i64 pv) (by simp))
   have HT:TwoAt w #[.int .i64 3,.string h1,.string h2,.string who,.string s1,.string s2,.string s3,.string s4,.string via] #[.int .i64 0,.int .i64 0,.int .i64 0,.int .i64 0,.int .i64 0,.int .i64 0] wn:=by rw [← hw];exact ⟨(HT.a.far (by omega)),(HT.b.far (by omega)),(below_put HT.low (by omega))⟩
   clear hw
   (refine hK.out _ _ (HT.a.1) (fun hHeld=>?_);clear hK K;(try simp only [Act.put,List.setIfInBounds_toArray,List.set]))
   refine wpAnyH_done (by kernel_rfl) ?_ _
   have HT:=Lib.hid HT
   obtain ⟨cs,fs,zs⟩:=H6
   obtain ⟨mn,hmn,hmd0⟩:=run_min5 (P:=Tryz.prog) #[3,3,3,3,3] 3 rh 0 ra 0 pv
   have hmd:decide (mn < 0) = !ruleOk ⟨3,rh,0,ra,0,pv⟩:=hmd0
   clear hmd0
   cases hok:ruleOk ⟨3,rh,0,ra,0,pv⟩ with
   | false =>
    have R:=Lib.hid (RB.out (by rw [RV];exact hok))
    have d:decide (mn < 0)=true:=by rw [hmd,hok];rfl
    obtain ⟨cb,fb,zb⟩:=HT.out.b
    clear hmd hok RV
    go_wp2
    refine bodyPost_ret (v:=.tuple #[ruv noRu,.bool false]) (by simp [results,Tryz.results128,go_sem,noRu,cb]) rfl ⟨by rw [R.out],?_⟩
    exact below_puts (by omega) [.int .i64 0,.int .i64 0,.int .i64 0,.int .i64 0,.int .i64 0,.int .i64 0] 0 wn HT.out.low
   | true =>
    have R:=Lib.hid (RR.out (by rw [RV];exact hok))
    have d:decide (mn < 0)=false:=by rw [hmd,hok];rfl
    have RV:=Lib.hid RV
    obtain ⟨cb,fb,zb⟩:=HT.out.b
    clear hmd hok
    go_wp2
    refine bodyPost_ret (v:=.tuple #[ruv ⟨3,rh,0,ra,0,pv⟩,.bool true]) (by simp [results,Tryz.results128,go_sem,cb]) rfl ⟨by rw [R.out,RV.out],?_⟩
    exact below_puts (by omega) [.int .i64 3,.int .i64 rh,.int .i64 0,.int .i64 ra,.int .i64 0,.int .i64 pv] 0 wn HT.out.low
  have n3:=hk
  clear hk
  by_cases hk:k=4
  ·skip
   subst hk
   obtain ⟨ca,fa,za⟩:=HT.a
   go_wp2_with fail
   obtain ⟨ra,hra⟩:∃ x,x=roleN a b ⟨s1,s2⟩:=⟨_,rfl⟩
   have RA:=Lib.hid (fun W hb=>RO.out ⟨s1,s2⟩ W hb)
   rw [← hra] at RA
   obtain ⟨rb,hrb⟩:∃ x,x=roleN a b ⟨s3,s4⟩:=⟨_,rfl⟩
   have RB2:=Lib.hid (fun W hb=>RO.out ⟨s3,s4⟩ W hb)
   rw [← hrb] at RB2
   have RV:ruleR a b ⟨4,⟨h1,h2⟩,who,⟨s1,s2⟩,⟨s3,s4⟩,via⟩=⟨4,rh,0,ra,rb,0⟩:=by unfold ruleR;simp [HRH.out,hra,hrb]
   clear hra hrb
   refine (RB2.out _ HT.low).mono ?_
   rintro e wq ⟨rfl,hb⟩
   have HT:=HT.later hb
   have H6:=H6.below hb
   clear hb ca fa za
   obtain ⟨ca,fa,za⟩:=HT.a
   have Hc:=H6
   obtain ⟨cs,fs,zs⟩:=Hc
   go_upto_region 11 with fail
   clear cs fs zs ca fa za
   generalize hw:wq.setCell ⟨b6,4,none⟩ (.int .i64 rb)=wp
   have H6:Blk wp b6 #[.int .i64 4,.int .i64 rh,.int .i64 0,.int .i64 0,.int .i64 rb,.int .i64 0]:=by rw [← hw];simpa using H6.put (o:=4) (v:=.int .i64 rb) (by simp)
   have HT:TwoAt w #[.int .i64 4,.string h1,.string h2,.string who,.string s1,.string s2,.string s3,.string s4,.string via] #[.int .i64 0,.int .i64 0,.int .i64 0,.int .i64 0,.int .i64 0,.int .i64 0] wp:=by rw [← hw];exact ⟨HT.a.far (by omega),HT.b.far (by omega),below_put HT.low (by omega)⟩
   clear hw
   obtain ⟨ca,fa,za⟩:=HT.a
   go_wp2_with fail
   refine (RA.out _ HT.low).mono ?_
   rintro e wq2 ⟨rfl,hb⟩
   have HT:=HT.later hb
   have H6:=H6.below hb
   clear hb ca fa za
   have Hc:=H6
   obtain ⟨cs,fs,zs⟩:=Hc
   go_upto_region 13 with fail
   clear cs fs zs
   generalize hw:(wq2.setCell ⟨b6,3,none⟩ (.int .i64 ra))=wn
   have H6:Blk wn b6 #[.int .i64 4,.int .i64 rh,.int .i64 0,.int .i64 ra,.int .i64 rb,.int .i64 0]:=by rw [← hw];simpa using (H6.put (o:=3) (v:=.int .i64 ra) (by simp))
   have HT:TwoAt w #[.int .i64 4,.string h1,.string h2,.string who,.string s1,.string s2,.string s3,.string s4,.string via] #[.int .i64 0,.int .i64 0,.int .i64 0,.int .i64 0,.int .i64 0,.int .i64 0] wn:=by rw [← hw];exact ⟨(HT.a.far (by omega)),(HT.b.far (by omega)),(below_put HT.low (by omega))⟩
   clear hw
   have HT:=Lib.hid HT
   obtain ⟨cs,fs,zs⟩:=H6
   obtain ⟨mn,hmn,hmd0⟩:=run_min5 (P:=Tryz.prog) #[3,3,3,3,3] 3 rh 0 ra rb 0
   have hmd:decide (mn < 0) = !ruleOk ⟨4,rh,0,ra,rb,0⟩:=hmd0
   clear hmd0
   cases hok:ruleOk ⟨4,rh,0,ra,rb,0⟩ with
   | false =>
    have R:=Lib.hid (RB.out (by rw [RV];exact hok))
    have d:decide (mn < 0)=true:=by rw [hmd,hok];rfl
    obtain ⟨cb,fb,zb⟩:=HT.out.b
    clear hmd hok RV
    go_wp2
    refine bodyPost_ret (v:=.tuple #[ruv noRu,.bool false]) (by simp [results,Tryz.results128,go_sem,noRu,cb]) rfl ⟨by rw [R.out],?_⟩
    exact below_puts (by omega) [.int .i64 0,.int .i64 0,.int .i64 0,.int .i64 0,.int .i64 0,.int .i64 0] 0 wn HT.out.low
   | true =>
    have R:=Lib.hid (RR.out (by rw [RV];exact hok))
    have d:decide (mn < 0)=false:=by rw [hmd,hok];rfl
    have RV:=Lib.hid RV
    obtain ⟨cb,fb,zb⟩:=HT.out.b
    clear hmd hok
    go_wp2
    refine bodyPost_ret (v:=.tuple #[ruv ⟨4,rh,0,ra,rb,0⟩,.bool true]) (by simp [results,Tryz.results128,go_sem,cb]) rfl ⟨by rw [R.out,RV.out],?_⟩
    exact below_puts (by omega) [.int .i64 4,.int .i64 rh,.int .i64 0,.int .i64 ra,.int .i64 rb,.int .i64 0] 0 wn HT.out.low
  have hr:=HR.out
  rw [rightS0 k _ _ _ _ _ n1 n2 n3 hk] at hr
  cases hr
theorem table_Rule {t ba bb:Nat} {a b:List ByteArray} {w:World} (h:TblAt w t ba bb a b) (s:St) (hs:s.le 4294967) :
  Calls Tryz.prog 128 #[.pointer (some ⟨t,0,none⟩),sv s] w fun e w'=>e=.returned (.tuple #[ruv (ruleN a b s).1,.bool (ruleN a b s).2])∧Below w.heap.size w w' :=
 table_RuleG (some ⟨t,0,none⟩) a b w h.sa h.sb h.na h.nb (fun r _ hb=>table_Role (h.below hb) r)
  (fun W hb=>(table_Prins (h.below hb)).mono (fun _ _ ⟨h1,h2⟩=>⟨ba,h1,by rw [h2];exact h.ta.below hb,by rw [h2];exact Below.refl _ _⟩))
  (fun W hb=>(table_Links (h.below hb)).mono (fun _ _ ⟨h1,h2⟩=>⟨bb,h1,by rw [h2];exact h.tb.below hb,by rw [h2];exact Below.refl _ _⟩)) s hs
end
section
open Go.RowKit Go.Shelf

def inR (n:Nat) (i:Int):Bool:=decide (0≤i∧i < n)
def okRu (p l:Nat) (r:Ru):Bool :=
 decide (p≤1000) && decide (l≤1000) && inR (p * l) r.h &&
 (if r.k=1 then decide (r.a=0∧r.b=0∧r.via=0) && inR p r.who
 else if r.k=2 then decide (r.who=0∧r.b=0∧r.via=0) && inR (p * l) r.a
 else if r.k=3 then decide (r.who=0∧r.b=0) && inR (p * l) r.a && inR l r.via
 else if r.k=4 then decide (r.who=0∧r.via=0) && inR (p * l) r.a && inR (p * l) r.b
 else false)
def stmtR (a b:List ByteArray) (r:Ru):St:=⟨r.k,roleAt a b r.h,if r.k=1 then atB a r.who else emp,if r.k=1 then noR else roleAt a b r.a,if r.k=4 then roleAt a b r.b else noR,if r.k=3 then atB b r.via else emp⟩
def stmtN (a b:List ByteArray) (r:Ru):St × Bool:=if okRu a.length b.length r=true then (normalS (stmtR a b r),true) else (noS,false)
theorem stmtN_ok {a b:List ByteArray} {r:Ru} (h:okRu a.length b.length r=true):stmtN a b r=(normalS (stmtR a b r),true):=if_pos h
theorem stmtN_no {a b:List ByteArray} {r:Ru} (h:okRu a.length b.length r=false):stmtN a b r=(noS,false):=if_neg (by rw [h];exact Bool.false_ne_true)
theorem inR_iff {n:Nat} {i:Int}:inR n i=true↔∃ k:Nat,i=k∧k < n:=by
 unfold inR
 rw [decide_eq_true_iff]
 constructor
 ·rintro ⟨h1,h2⟩
  obtain ⟨k,rfl⟩:=Int.eq_ofNat_of_zero_le h1
  exact ⟨k,rfl,by omega⟩
 ·rintro ⟨k,rfl,h⟩
  exact ⟨by omega,by omega⟩
theorem place_yes {l:List ByteArray} {s:ByteArray} (h:0≤placeB l s):∃ k:Nat,placeB l s=k∧∃ hk:k < l.length,l[k]=s:=by
 unfold placeB at h ⊢
 by_cases hs:hasB l s=true
 ·rw [if_pos hs]
  exact ⟨idxB l s,rfl,idxB_lt l s ((hasB_mem l s).1 hs),idxB_get l s ((hasB_mem l s).1 hs)⟩
 ·rw [if_neg hs] at h;omega
theorem roleN_yes {a b:List ByteArray} {r:Rl} (h:0≤roleN a b r):∃ i j:Nat,∃ (hi:i < a.length) (hj:j < b.length),a[i]=r.o∧b[j]=r.n∧roleN a b r=(i:Int) * (b.length:Int)+(j:Int):=by
 unfold roleN at h ⊢
 by_cases hc:placeB a r.o < 0∨placeB b r.n < 0
 ·rw [if_pos hc] at h;omega
 ·rw [if_neg hc]
  obtain ⟨i,e1,hi,g1⟩:=place_yes (l:=a) (s:=r.o) (by omega)
  obtain ⟨j,e2,hj,g2⟩:=place_yes (l:=b) (s:=r.n) (by omega)
  exact ⟨i,j,hi,hj,g1,g2,by rw [e1,e2]⟩
theorem roleN_at {a b:List ByteArray} {r:Rl} (h:0≤roleN a b r):roleAt a b (roleN a b r)=r∧inR (a.length * b.length) (roleN a b r)=true:=by
 obtain ⟨i,j,hi,hj,g1,g2,e⟩:=roleN_yes h
 refine ⟨by rw [e,roleAt_ij hi hj,g1,g2],?_⟩
 rw [e,inR_iff]
 have:i * b.length+b.length≤a.length * b.length:=by rw [← Nat.succ_mul];exact Nat.mul_le_mul_right _ hi
 exact ⟨i * b.length+j,by rw [Int.natCast_add,Int.natCast_mul],by omega⟩
theorem roleN_of {a b:List ByteArray} (ha:AscB a) (hb:AscB b) {i j:Nat} (hi:i < a.length) (hj:j < b.length):roleN a b ⟨a[i],b[j]⟩=(i:Int) * (b.length:Int)+(j:Int):=by
 unfold roleN
 rw [place_asc ha hi rfl,place_asc hb hj rfl,if_neg (by omega)]
theorem stmt_rule {a b:List ByteArray} {s:St} (na:a.length≤1000) (nb:b.length≤1000) (h:(ruleN a b s).2=true):stmtN a b (ruleN a b s).1=(s,true):=by
 unfold ruleN at h ⊢
 by_cases hc:rightS s=true∧ruleOk (ruleR a b s)=true
 ·rw [if_pos hc] at h ⊢
  clear h
  obtain ⟨hr,hok⟩:=hc
  unfold ruleOk at hok
  rw [decide_eq_true_iff] at hok
  obtain ⟨o1,o2,o3,o4,o5⟩:=hok
  have ok0:okRu a.length b.length (ruleR a b s)=true∧normalS (stmtR a b (ruleR a b s))=s:=by
   obtain ⟨k,h,who,x,y,via⟩:=s
   simp only [ruleR] at o1 o2 o3 o4 o5
   obtain ⟨g1,g2⟩:=roleN_at o1
   unfold okRu
   rw [decide_eq_true na,decide_eq_true nb]
   simp only [ruleR,g2,Bool.true_and,stmtR,g1]
   by_cases k1:k=1
   ·subst k1
    simp only [if_pos] at o2
    rw [rightS1] at hr
    simp only [Bool.and_eq_true,eqSt,decide_eq_true_iff,St.mk.injEq] at hr
    obtain ⟨⟨r1,r2⟩,_,_,_,rfl,rfl,rfl⟩:=hr
    obtain ⟨i,e1,hi,g⟩:=place_yes o2
    refine ⟨by simp;rw [e1,inR_iff];exact ⟨i,rfl,hi⟩,?_⟩
    simp [normalS,e1,atB_get hi,g]
   ·by_cases k2:k=2
    ·subst k2
     simp at o3
     obtain ⟨g3,g4⟩:=roleN_at o3
     rw [rightS2] at hr
     simp only [Bool.and_eq_true,eqSt,decide_eq_true_iff,St.mk.injEq] at hr
     obtain ⟨_,_,_,rfl,_,rfl,rfl⟩:=hr
     refine ⟨by simp [g4],?_⟩
     simp [normalS,g3]
    ·by_cases k3:k=3
     ·subst k3
      simp at o3 o5
      obtain ⟨g3,g4⟩:=roleN_at o3
      rw [rightS3] at hr
      simp only [Bool.and_eq_true,eqSt,decide_eq_true_iff,St.mk.injEq] at hr
      obtain ⟨_,_,_,rfl,_,rfl,_⟩:=hr
      obtain ⟨i,e1,hi,g⟩:=place_yes o5
      refine ⟨by simp [g4];rw [e1,inR_iff];exact ⟨i,rfl,hi⟩,?_⟩
      simp [normalS,g3,e1,atB_get hi,g]
     ·by_cases k4:k=4
      ·subst k4
       simp at o3 o4
       obtain ⟨g3,g4⟩:=roleN_at o3
       obtain ⟨g5,g6⟩:=roleN_at o4
       rw [rightS4] at hr
       simp only [Bool.and_eq_true,eqSt,decide_eq_true_iff,St.mk.injEq,Bool.not_eq_true'] at hr
       obtain ⟨⟨_,hl⟩,_,_,rfl,_,_,rfl⟩:=hr
       refine ⟨by simp [g4,g6],?_⟩
       simp [normalS,g3,g5,hl]
      ·rw [rightS0 k _ _ _ _ _ k1 k2 k3 k4] at hr
       cases hr
  rw [stmtN_ok ok0.1,ok0.2]
 ·rw [if_neg hc] at h;cases h
def turned (y r:Ru):Prop:=y=r∨(r.k=4∧y.a=r.b∧y.b=r.a∧y.h=r.h)
end
section
open Go.RowKit Go.Shelf

theorem nodup_le {α:Type} [DecidableEq α]:∀ (l m:List α),l.Nodup→(∀ x∈l,x∈m)→l.length≤m.length
 | [],_,_,_=>by simp
 | a :: l,m,hn,hs=>by
  have ha:a∈m:=hs a (List.mem_cons_self ..)
  rw [List.nodup_cons] at hn
  have h1:=nodup_le l (m.erase a) hn.2 (fun x hx=>by
   have hxa:x≠a:=fun e=>hn.1 (e ▸ hx)
   exact (List.mem_erase_of_ne hxa).2 (hs x (List.mem_cons_of_mem _ hx)))
  have h2:=List.length_erase_of_mem ha
  have h3:0 < m.length:=List.length_pos_of_mem ha
  simp only [List.length_cons]
  omega
theorem nodup_snoc {α:Type} {l:List α} {x:α} (h:l.Nodup) (hx:x ∉ l):(l++[x]).Nodup:=by
 rw [List.nodup_append]
 exact ⟨h,by simp,fun a ha b hb=>by rw [List.mem_singleton.1 hb];exact fun e=>hx (e ▸ ha)⟩

structure CloN (lk:Nat) (rs:List Ru) (D:Nat→Nat→Prop):Prop where
 mem:∀ r∈rs,r.k=1→D r.h.toNat r.who.toNat
 incl:∀ r∈rs,r.k=2→∀ x,D r.a.toNat x→D r.h.toNat x
 link:∀ r∈rs,r.k=3→∀ x y,D r.a.toNat x→D (x * lk+r.via.toNat) y→D r.h.toNat y
 both:∀ r∈rs,r.k=4→∀ x,D r.a.toNat x→D r.b.toNat x→D r.h.toNat x
structure LeastN (lk:Nat) (rs:List Ru) (D:Nat→Nat→Prop):Prop where
 clo:CloN lk rs D
 min:∀ E:Nat→Nat→Prop,CloN lk rs E→∀ r x,D r x→E r x

structure SemInv (pr lk:Nat) (rs:List Ru) (fs:List (Nat × Nat)) (k:Nat):Prop where
 nodup:fs.Nodup
 rng:∀ f∈fs,f.1 < pr * lk∧f.2 < pr
 sound:∀ E:Nat→Nat→Prop,CloN lk rs E→∀ f∈fs,E f.1 f.2
 mem:∀ r∈rs,r.k=1→(r.h.toNat,r.who.toNat)∈fs
 incl:∀ r∈rs,r.k=2→∀ x,(r.a.toNat,x)∈fs.take k→(r.h.toNat,x)∈fs
 link:∀ r∈rs,r.k=3→∀ x y,(r.a.toNat,x)∈fs.take k→(x * lk+r.via.toNat,y)∈fs.take k→(r.h.toNat,y)∈fs
 both:∀ r∈rs,r.k=4→∀ x,(r.a.toNat,x)∈fs.take k→(r.b.toNat,x)∈fs.take k→(r.h.toNat,x)∈fs
theorem SemInv.least {pr lk:Nat} {rs:List Ru} {fs:List (Nat × Nat)} (h:SemInv pr lk rs fs fs.length):LeastN lk rs (fun r x=>(r,x)∈fs):=by
 have e:fs.take fs.length=fs:=List.take_length
 refine ⟨⟨h.mem,?_,?_,?_⟩,fun E hE r x hx=>h.sound E hE (r,x) hx⟩
 ·intro r hr hk x hx;exact h.incl r hr hk x (by rw [e];exact hx)
 ·intro r hr hk x y hx hy;exact h.link r hr hk x y (by rw [e];exact hx) (by rw [e];exact hy)
 ·intro r hr hk x hx hy;exact h.both r hr hk x (by rw [e];exact hx) (by rw [e];exact hy)
structure Looked (lk:Nat) (rs:List Ru) (f:Nat × Nat) (fs fs':List (Nat × Nat)):Prop where
 incl:∀ r∈rs,r.k=2→r.a.toNat=f.1→(r.h.toNat,f.2)∈fs'
 both:∀ r∈rs,r.k=4→r.a.toNat=f.1∨r.b.toNat=f.1→(r.a.toNat,f.2)∈fs→(r.b.toNat,f.2)∈fs→(r.h.toNat,f.2)∈fs'
 linkA:∀ r∈rs,r.k=3→r.a.toNat=f.1→∀ y,(f.2 * lk+r.via.toNat,y)∈fs→(r.h.toNat,y)∈fs'
 linkV:∀ r∈rs,r.k=3→r.via.toNat=f.1 % lk→(r.a.toNat,f.1 / lk)∈fs→(r.h.toNat,f.2)∈fs'
theorem SemInv.step {pr lk:Nat} {rs:List Ru} {fs fs':List (Nat × Nat)} {k:Nat} (h:SemInv pr lk rs fs k) (hk:k < fs.length) (hv:∀ r∈rs,r.k=3→r.via.toNat < lk)
  (hp:∃ news,fs'=fs++news) (nodup:fs'.Nodup) (rng:∀ f∈fs',f.1 < pr * lk∧f.2 < pr) (sound:∀ E:Nat→Nat→Prop,CloN lk rs E→∀ f∈fs',E f.1 f.2)
  (hl:Looked lk rs fs[k] fs fs'):SemInv pr lk rs fs' (k+1):=by
 obtain ⟨news,rfl⟩:=hp
 have e:(fs++news).take (k+1)=fs.take k++[fs[k]]:=by
  rw [List.take_append_of_le_length (by omega),List.take_succ_eq_append_getElem hk]
 have up:∀ {f},f∈fs→f∈fs++news:=fun hf=>List.mem_append.2 (.inl hf)
 have tk:∀ {f},f∈fs.take k→f∈fs:=fun hf=>List.mem_of_mem_take hf
 have hfk:fs[k]∈fs:=List.getElem_mem hk
 refine ⟨nodup,rng,sound,fun r hr h1=>up (h.mem r hr h1),?_,?_,?_⟩
 ·intro r hr h2 x hx
  rw [e,List.mem_append,List.mem_singleton] at hx
  rcases hx with hx | hx
  ·exact up (h.incl r hr h2 x hx)
  ·have:=hl.incl r hr h2 (by rw [← hx]);rwa [← hx] at this
 ·intro r hr h3 x y hx hy
  rw [e,List.mem_append,List.mem_singleton] at hx hy
  have inF:∀ {f},f∈fs.take k∨f=fs[k]→f∈fs:=fun hf=>hf.elim tk (fun e=>e ▸ hfk)
  rcases hy with hy | hy
  ·rcases hx with hx | hx
   ·exact up (h.link r hr h3 x y hx hy)
   ·exact hl.linkA r hr h3 (by rw [← hx]) y (by rw [← hx];exact tk hy)
  ·have hvl:=hv r hr h3
   have hd:(x * lk+r.via.toNat) / lk=x:=by rw [Nat.mul_comm,Nat.mul_add_div (by omega),Nat.div_eq_of_lt hvl,Nat.add_zero]
   have hm:(x * lk+r.via.toNat) % lk=r.via.toNat:=by rw [Nat.mul_comm,Nat.mul_add_mod,Nat.mod_eq_of_lt hvl]
   have:=hl.linkV r hr h3 (by rw [← hy];exact hm.symm) (by rw [← hy];dsimp only;rw [hd];exact inF hx)
   rwa [← hy] at this
 ·intro r hr h4 x hx hy
  rw [e,List.mem_append,List.mem_singleton] at hx hy
  have inF:∀ {f},f∈fs.take k∨f=fs[k]→f∈fs:=fun hf=>hf.elim tk (fun e=>e ▸ hfk)
  by_cases ha:(r.a.toNat,x)=fs[k]
  ·have:=hl.both r hr h4 (.inl (by rw [← ha])) (by rw [← ha];exact inF hx) (by rw [← ha];exact inF hy)
   rwa [← ha] at this
  ·by_cases hb:(r.b.toNat,x)=fs[k]
   ·have:=hl.both r hr h4 (.inr (by rw [← hb])) (by rw [← hb];exact inF hx) (by rw [← hb];exact inF hy)
    rwa [← hb] at this
   ·exact up (h.both r hr h4 x (hx.resolve_right ha) (hy.resolve_right hb))
def byR (rs:List Ru) (i:Nat):List Ru:=rs.filter (fun r=>decide (r.k≠1) && (decide (r.a=(i:Int)) || (decide (r.k=4) && decide (r.b=(i:Int)))))
def viaR (rs:List Ru) (j:Nat):List Ru:=rs.filter (fun r=>decide (r.k=3) && decide (r.via=(j:Int)))
theorem byR_len (rs:List Ru) (i:Nat):(byR rs i).length≤rs.length:=List.length_filter_le _ _
theorem viaR_len (rs:List Ru) (i:Nat):(viaR rs i).length≤rs.length:=List.length_filter_le _ _
theorem byR_mem {rs:List Ru} {i:Nat} {r:Ru}:r∈byR rs i↔r∈rs∧r.k≠1∧(r.a=(i:Int)∨r.k=4∧r.b=(i:Int)):=by
 unfold byR;rw [List.mem_filter];simp
theorem viaR_mem {rs:List Ru} {j:Nat} {r:Ru}:r∈viaR rs j↔r∈rs∧r.k=3∧r.via=(j:Int):=by
 unfold viaR;rw [List.mem_filter];simp

structure CloS (l:List St) (D:Rl→ByteArray→Prop):Prop where
 mem:∀ s∈l,s.k=1→D s.h s.who
 incl:∀ s∈l,s.k=2→∀ x,D s.a x→D s.h x
 link:∀ s∈l,s.k=3→∀ x y,D s.a x→D ⟨x,s.via⟩ y→D s.h y
 both:∀ s∈l,s.k=4→∀ x,D s.a x→D s.b x→D s.h x
structure LeastS (l:List St) (D:Rl→ByteArray→Prop):Prop where
 clo:CloS l D
 min:∀ E:Rl→ByteArray→Prop,CloS l E→∀ r x,D r x→E r x
theorem CloS.sub {l m:List St} {D:Rl→ByteArray→Prop} (h:CloS m D) (hs:∀ s∈l,s∈m):CloS l D :=
 ⟨fun s hm=>h.mem s (hs s hm),fun s hm=>h.incl s (hs s hm),fun s hm=>h.link s (hs s hm),fun s hm=>h.both s (hs s hm)⟩
theorem LeastS.mono {l m:List St} {D E:Rl→ByteArray→Prop} (h:LeastS l D) (g:LeastS m E) (hs:∀ s∈l,s∈m) (r:Rl) (x:ByteArray) (hd:D r x):E r x:=h.min E (g.clo.sub hs) r x hd

theorem num_inj {n i j i' j':Nat} (hj:j < n) (hj':j' < n) (e:i * n+j=i' * n+j'):i=i'∧j=j':=by
 have h1:(i * n+j) / n=i:=by rw [Nat.mul_comm,Nat.mul_add_div (by omega),Nat.div_eq_of_lt hj,Nat.add_zero]
 have h2:(i' * n+j') / n=i':=by rw [Nat.mul_comm,Nat.mul_add_div (by omega),Nat.div_eq_of_lt hj',Nat.add_zero]
 have h3:i=i':=by rw [← h1,← h2,e]
 subst h3
 exact ⟨rfl,by omega⟩
theorem rule_parts {a b:List ByteArray} {s:St} (h:(ruleN a b s).2=true) :
  rightS s=true∧(ruleN a b s).1=ruleR a b s∧0≤roleN a b s.h∧(s.k=1→0≤placeB a s.who)∧(s.k≠1→0≤roleN a b s.a)∧(s.k=4→0≤roleN a b s.b)∧(s.k=3→0≤placeB b s.via):=by
 unfold ruleN at h ⊢
 by_cases hc:rightS s=true∧ruleOk (ruleR a b s)=true
 ·rw [if_pos hc]
  obtain ⟨hr,hok⟩:=hc
  unfold ruleOk at hok
  rw [decide_eq_true_iff] at hok
  obtain ⟨o1,o2,o3,o4,o5⟩:=hok
  simp only [ruleR] at o1 o2 o3 o4 o5
  refine ⟨hr,rfl,o1,fun e=>?_,fun e=>?_,fun e=>?_,fun e=>?_⟩
  ·rw [if_pos e] at o2;exact o2
  ·rw [if_neg e] at o3;exact o3
  ·rw [if_pos e] at o4;exact o4
  ·rw [if_pos e] at o5;exact o5
 ·rw [if_neg hc] at h;cases h
theorem role_at {a b:List ByteArray} {r:Rl} (h:0≤roleN a b r):∃ i j,∃ (hi:i < a.length) (hj:j < b.length),r=⟨a[i],b[j]⟩∧(roleN a b r).toNat=i * b.length+j:=by
 obtain ⟨i,j,hi,hj,g1,g2,e⟩:=roleN_yes h
 refine ⟨i,j,hi,hj,?_,?_⟩
 ·obtain ⟨x,y⟩:=r;simp only at g1 g2;rw [g1,g2]
 ·rw [e,← Int.natCast_mul];omega
theorem role_num {a b:List ByteArray} (ha:AscB a) (hb:AscB b) {i j:Nat} (hi:i < a.length) (hj:j < b.length):(roleN a b ⟨a[i],b[j]⟩).toNat=i * b.length+j:=by
 rw [roleN_of ha hb hi hj,← Int.natCast_mul];omega
theorem place_at {a:List ByteArray} {s:ByteArray} (h:0≤placeB a s):∃ k,∃ hk:k < a.length,s=a[k]∧(placeB a s).toNat=k:=by
 obtain ⟨k,e,hk,g⟩:=place_yes h
 exact ⟨k,hk,g.symm,by rw [e];rfl⟩
theorem get_inj {a:List ByteArray} (ha:AscB a) {i j:Nat} (hi:i < a.length) (hj:j < a.length) (e:a[i]=a[j]):i=j:=by
 have h1:=place_asc ha hi rfl
 have h2:=place_asc ha hj e.symm
 omega
theorem least_same {a b:List ByteArray} {l:List St} (ha:AscB a) (hb:AscB b) (hok:∀ s∈l,(ruleN a b s).2=true)
  {D:Rl→ByteArray→Prop} (hD:LeastS l D) {E:Nat→Nat→Prop} (hE:LeastN b.length (l.map fun s=>(ruleN a b s).1) E) :
  (∀ r x,D r x→∃ i j k,∃ (hi:i < a.length) (hj:j < b.length) (hk:k < a.length),r=⟨a[i],b[j]⟩∧x=a[k]∧E (i * b.length+j) k) ∧
  (∀ i j k,∀ (hi:i < a.length) (hj:j < b.length) (hk:k < a.length),E (i * b.length+j) k→D ⟨a[i],b[j]⟩ a[k]):=by
 have hmem:∀ s∈l,(ruleN a b s).1∈l.map fun s=>(ruleN a b s).1:=fun s hs=>List.mem_map.2 ⟨s,hs,rfl⟩
 constructor
 ·refine hD.min (fun r x => ∃ i j k,∃ (hi:i < a.length) (hj:j < b.length) (hk:k < a.length),r=⟨a[i],b[j]⟩∧x=a[k]∧E (i * b.length+j) k) ⟨?_,?_,?_,?_⟩
  ·intro s hs hk
   obtain ⟨_,e,o1,o2,o3,o4,o5⟩:=rule_parts (hok s hs)
   obtain ⟨i,j,hi,hj,g1,g2⟩:=role_at o1
   obtain ⟨k,hk',g3,g4⟩:=place_at (o2 hk)
   have h:=hE.clo.mem _ (hmem s hs) (by rw [e];exact hk)
   rw [e] at h
   simp only [ruleR,if_pos hk] at h
   rw [g2,g4] at h
   exact ⟨i,j,k,hi,hj,hk',g1,g3,h⟩
  ·rintro s hs hk x ⟨i,j,k,hi,hj,hk',g1,g2,g3⟩
   obtain ⟨_,e,o1,o2,o3,o4,o5⟩:=rule_parts (hok s hs)
   obtain ⟨i',j',hi',hj',g1',g2'⟩:=role_at o1
   have hk1:s.k≠1:=by omega
   have h:=hE.clo.incl _ (hmem s hs) (by rw [e];exact hk) k (by rw [e];simp only [ruleR,if_neg hk1];rw [g1,role_num ha hb hi hj];exact g3)
   rw [e] at h
   simp only [ruleR] at h
   rw [g2'] at h
   exact ⟨i',j',k,hi',hj',hk',g1',g2,h⟩
  ·rintro s hs hk x y ⟨i,j,k,hi,hj,hk',g1,g2,g3⟩ ⟨i2,j2,k2,hi2,hj2,hk2,q1,q2,q3⟩
   obtain ⟨_,e,o1,o2,o3,o4,o5⟩:=rule_parts (hok s hs)
   obtain ⟨i',j',hi',hj',g1',g2'⟩:=role_at o1
   have hk1:s.k≠1:=by omega
   simp only [Rl.mk.injEq] at q1
   have eik:k=i2:=get_inj ha hk' hi2 (by rw [← g2];exact q1.1)
   subst eik
   have h:=hE.clo.link _ (hmem s hs) (by rw [e];exact hk) k k2 (by rw [e];simp only [ruleR,if_neg hk1];rw [g1,role_num ha hb hi hj];exact g3)
    (by rw [e];simp only [ruleR,if_pos hk];rw [q1.2,place_asc hb hj2 rfl];exact q3)
   rw [e] at h
   simp only [ruleR] at h
   rw [g2'] at h
   exact ⟨i',j',k2,hi',hj',hk2,g1',q2,h⟩
  ·rintro s hs hk x ⟨i,j,k,hi,hj,hk',g1,g2,g3⟩ ⟨i2,j2,k2,hi2,hj2,hk2,q1,q2,q3⟩
   obtain ⟨_,e,o1,o2,o3,o4,o5⟩:=rule_parts (hok s hs)
   obtain ⟨i',j',hi',hj',g1',g2'⟩:=role_at o1
   have hk1:s.k≠1:=by omega
   have eik:k=k2:=get_inj ha hk' hk2 (by rw [← g2,q2])
   subst eik
   have h:=hE.clo.both _ (hmem s hs) (by rw [e];exact hk) k (by rw [e];simp only [ruleR,if_neg hk1];rw [g1,role_num ha hb hi hj];exact g3)
    (by rw [e];simp only [ruleR,if_pos hk];rw [q1,role_num ha hb hi2 hj2];exact q3)
   rw [e] at h
   simp only [ruleR] at h
   rw [g2'] at h
   exact ⟨i',j',k,hi',hj',hk',g1',g2,h⟩
 ·intro i j k hi hj hk hx
  have key:=hE.min (fun n x => ∃ i j,∃ (hi:i < a.length) (hj:j < b.length) (hx:x < a.length),n=i * b.length+j∧D ⟨a[i],b[j]⟩ a[x]) ⟨?_,?_,?_,?_⟩ _ _ hx
  ·obtain ⟨i',j',hi',hj',hk',e,h⟩:=key
   obtain ⟨rfl,rfl⟩:=num_inj hj hj' e
   exact h
  ·intro r hr hk
   obtain ⟨s,hs,rfl⟩:=List.mem_map.1 hr
   obtain ⟨_,e,o1,o2,o3,o4,o5⟩:=rule_parts (hok s hs)
   rw [e] at hk ⊢
   have hk:s.k=1:=hk
   obtain ⟨i,j,hi,hj,g1,g2⟩:=role_at o1
   obtain ⟨k,hk',g3,g4⟩:=place_at (o2 hk)
   have h:=hD.clo.mem s hs hk
   simp only [ruleR,if_pos hk]
   subst g4
   refine ⟨i,j,hi,hj,hk',g2,?_⟩
   rw [← g1,show a[(placeB a s.who).toNat]=s.who from g3.symm];exact h
  ·rintro r hr hk x ⟨i,j,hi,hj,hx,q1,q2⟩
   obtain ⟨s,hs,rfl⟩:=List.mem_map.1 hr
   obtain ⟨_,e,o1,o2,o3,o4,o5⟩:=rule_parts (hok s hs)
   rw [e] at hk q1 ⊢
   have hk:s.k=2:=hk
   have hk1:s.k≠1:=by omega
   obtain ⟨i',j',hi',hj',g1,g2⟩:=role_at o1
   obtain ⟨i3,j3,hi3,hj3,g3,g4⟩:=role_at (o3 hk1)
   simp only [ruleR,if_neg hk1] at q1 ⊢
   rw [g4] at q1
   obtain ⟨rfl,rfl⟩:=num_inj hj3 hj q1
   refine ⟨i',j',hi',hj',hx,g2,?_⟩
   rw [← g1]
   exact hD.clo.incl s hs hk _ (by rw [g3];exact q2)
  ·rintro r hr hk x y ⟨i,j,hi,hj,hx,q1,q2⟩ ⟨i2,j2,hi2,hj2,hy,p1,p2⟩
   obtain ⟨s,hs,rfl⟩:=List.mem_map.1 hr
   obtain ⟨_,e,o1,o2,o3,o4,o5⟩:=rule_parts (hok s hs)
   rw [e] at hk q1 p1 ⊢
   have hk:s.k=3:=hk
   have hk1:s.k≠1:=by omega
   obtain ⟨i',j',hi',hj',g1,g2⟩:=role_at o1
   obtain ⟨i3,j3,hi3,hj3,g3,g4⟩:=role_at (o3 hk1)
   obtain ⟨v,hv,g5,g6⟩:=place_at (o5 hk)
   simp only [ruleR,if_neg hk1,if_pos hk] at q1 p1 ⊢
   rw [g4] at q1
   rw [g6] at p1
   obtain ⟨rfl,rfl⟩:=num_inj hj3 hj q1
   obtain ⟨rfl,rfl⟩:=num_inj hv hj2 p1
   refine ⟨i',j',hi',hj',hy,g2,?_⟩
   rw [← g1]
   exact hD.clo.link s hs hk _ _ (by rw [g3];exact q2) (by rw [g5];exact p2)
  ·rintro r hr hk x ⟨i,j,hi,hj,hx,q1,q2⟩ ⟨i2,j2,hi2,hj2,hy,p1,p2⟩
   obtain ⟨s,hs,rfl⟩:=List.mem_map.1 hr
   obtain ⟨_,e,o1,o2,o3,o4,o5⟩:=rule_parts (hok s hs)
   rw [e] at hk q1 p1 ⊢
   have hk:s.k=4:=hk
   have hk1:s.k≠1:=by omega
   obtain ⟨i',j',hi',hj',g1,g2⟩:=role_at o1
   obtain ⟨i3,j3,hi3,hj3,g3,g4⟩:=role_at (o3 hk1)
   obtain ⟨i4,j4,hi4,hj4,g5,g6⟩:=role_at (o4 hk)
   simp only [ruleR,if_neg hk1,if_pos hk] at q1 p1 ⊢
   rw [g4] at q1
   rw [g6] at p1
   obtain ⟨rfl,rfl⟩:=num_inj hj3 hj q1
   obtain ⟨rfl,rfl⟩:=num_inj hj4 hj2 p1
   refine ⟨i',j',hi',hj',hx,g2,?_⟩
   rw [← g1]
   exact hD.clo.both s hs hk _ (by rw [g3];exact q2) (by rw [g5];exact p2)

def hasP (ps:List (Rl × ByteArray)) (r:Rl) (x:ByteArray):Bool:=ps.any (fun p=>decide (p.1=r∧p.2=x))
theorem hasP_iff {ps:List (Rl × ByteArray)} {r:Rl} {x:ByteArray}:hasP ps r x=true↔(r,x)∈ps:=by
 unfold hasP
 rw [List.any_eq_true]
 constructor
 ·rintro ⟨⟨a,b⟩,hp,h⟩
  obtain ⟨rfl,rfl⟩:=of_decide_eq_true h
  exact hp
 ·intro h
  exact ⟨_,h,decide_eq_true ⟨rfl,rfl⟩⟩
def followsR (ps:List (Rl × ByteArray)) (s:St):List ByteArray :=
 if s.k=1 then [s.who] else
 ps.flatMap (fun (p:Rl × ByteArray)=>if p.1=s.a then (if s.k=2∨s.k=4∧hasP ps s.b p.2=true then [p.2] else [])++(if s.k=3 then ps.flatMap (fun (q:Rl × ByteArray)=>if q.1=⟨p.2,s.via⟩ then [q.2] else []) else []) else [])
theorem follows_mem {ps:List (Rl × ByteArray)} {s:St} (hk:s.k≠1) {y:ByteArray}:y∈followsR ps s↔∃ x,(s.a,x)∈ps∧((s.k=2∨s.k=4∧(s.b,x)∈ps)∧y=x∨s.k=3∧(⟨x,s.via⟩,y)∈ps):=by
 unfold followsR
 rw [if_neg hk,List.mem_flatMap]
 constructor
 ·rintro ⟨⟨r,x⟩,hp,hy⟩
  by_cases hr:r=s.a
  ·subst hr
   rw [if_pos rfl,List.mem_append] at hy
   refine ⟨x,hp,?_⟩
   rcases hy with hy | hy
   ·by_cases hc:s.k=2∨s.k=4∧hasP ps s.b x=true
    ·rw [if_pos hc] at hy;exact .inl ⟨by rw [hasP_iff] at hc;exact hc,List.mem_singleton.1 hy⟩
    ·rw [if_neg hc] at hy;cases hy
   ·by_cases hc:s.k=3
    ·rw [if_pos hc,List.mem_flatMap] at hy
     obtain ⟨⟨r2,y2⟩,hq,hy2⟩:=hy
     by_cases h2:r2=⟨x,s.via⟩
     ·subst h2
      rw [if_pos rfl] at hy2
      rw [List.mem_singleton.1 hy2]
      exact .inr ⟨hc,hq⟩
     ·rw [if_neg h2] at hy2;cases hy2
    ·rw [if_neg hc] at hy;cases hy
  ·rw [if_neg hr] at hy;cases hy
 ·rintro ⟨x,hp,h⟩
  refine ⟨(s.a,x),hp,?_⟩
  rw [if_pos rfl,List.mem_append]
  rcases h with ⟨hc,rfl⟩ | ⟨hc,hq⟩
  ·left;rw [if_pos (by rw [hasP_iff];exact hc)];exact List.mem_singleton.2 rfl
  ·right;rw [if_pos hc,List.mem_flatMap]
   exact ⟨_,hq,by rw [if_pos rfl];exact List.mem_singleton.2 rfl⟩
theorem follows_clo {ps:List (Rl × ByteArray)} {l:List St} (h:∀ s∈l,∀ x∈followsR ps s,(s.h,x)∈ps):CloS l (fun r x=>(r,x)∈ps):=by
 refine ⟨?_,?_,?_,?_⟩
 ·intro s hs hk
  exact h s hs _ (by unfold followsR;rw [if_pos hk];exact List.mem_singleton.2 rfl)
 ·intro s hs hk x hx
  exact h s hs _ ((follows_mem (by omega)).2 ⟨x,hx,.inl ⟨.inl hk,rfl⟩⟩)
 ·intro s hs hk x y hx hy
  exact h s hs _ ((follows_mem (by omega)).2 ⟨x,hx,.inr ⟨hk,hy⟩⟩)
 ·intro s hs hk x hx hy
  exact h s hs _ ((follows_mem (by omega)).2 ⟨x,hx,.inl ⟨.inr ⟨hk,hy⟩,rfl⟩⟩)
def SoundS (l:List St) (ps:List (Rl × ByteArray)):Prop:=∀ E:Rl→ByteArray→Prop,CloS l E→∀ p∈ps,E p.1 p.2
theorem SoundS.step {l:List St} {ps:List (Rl × ByteArray)} (h:SoundS l ps) {s:St} (hs:s∈l) {x:ByteArray} {qs:List (Rl × ByteArray)} (hq:SoundS l qs) (hx:x∈followsR qs s):SoundS l (ps++[(s.h,x)]):=by
 intro E hE p hp
 rcases List.mem_append.1 hp with hp | hp
 ·exact h E hE p hp
 ·rw [List.mem_singleton.1 hp]
  by_cases hk:s.k=1
  ·unfold followsR at hx
   rw [if_pos hk] at hx
   rw [List.mem_singleton.1 hx]
   exact hE.mem s hs hk
  ·obtain ⟨z,hz,⟨h2,rfl⟩ | ⟨h3,h4⟩⟩:=(follows_mem hk).1 hx
   ·rcases h2 with h2 | ⟨h2,h5⟩
    ·exact hE.incl s hs h2 _ (hq E hE _ hz)
    ·exact hE.both s hs h2 _ (hq E hE _ hz) (hq E hE _ h5)
   ·exact hE.link s hs h3 _ _ (hq E hE _ hz) (hq E hE _ h4)
end
section
open Go.RowKit Go.Shelf

set_option maxHeartbeats 1000000 in
theorem ref1_HasB (va:Value) (l:List ByteArray) (s:ByteArray) (w:World) (ha:SlA w 1 va l.length (strs l)) :
  Calls Tryz.prog 92 #[va,.string s] w fun e w'=>e=.returned (.bool (hasB l s))∧w'=w:=by
 have HA:=Lib.hid ha
 have hmax:=ha.max
 have HY:=Lib.hid (fun k (hk:k < l.length) (e:l[k]=s)=>hasB_yes hk e)
 have HE:=Lib.hid (fun k (hk:¬ k < l.length) h=>hasB_end (l:=l) (s:=s) (k:=k) hk h)
 obtain ⟨ao,cap,hva⟩:=ha.form
 subst hva
 clear ha
 generalize hasB l s=r at HY HE ⊢
 go_enter Tryz.func92,Tryz.ntmps92
 go_wp2
 go_loop [9] (fun i => ∃ k:Nat,k≤l.length∧i=.int .i64 k∧Hid (∀ j (hj:j < l.length),j < k→¬ l[j]=s)) (fun i=>l.length - (intOf i).toNat)
 case atStart=>exact ⟨0,by omega,rfl,Lib.hid (fun _ _ h=>absurd h (by omega))⟩
 case round =>
  obtain ⟨k,hk,rfl,HT⟩:=hrel
  by_cases hlt:k < l.length
  ·obtain ⟨b1,o1,c1,he1,hc1,hm1,hb1,hx1⟩:=HA.out.pos (by omega)
   simp only [Value.slice.injEq,true_and] at he1
   obtain ⟨rfl,rfl⟩:=he1
   have p0:=hx1 k _ (strs_get hlt)
   clear hx1
   have bs:=beq_str l[k] s
   by_cases he:l[k]=s
   ·have R:=Lib.hid (HY.out k hlt he)
    rw [decide_eq_true he] at bs
    clear he
    go_wp2
    go_ret
    exact ⟨by rw [R.out];rfl,rfl⟩
   ·have HT2:Hid (∀ j (hj:j < l.length),j < k+1→¬ l[j]=s):=Lib.hid (fun j hj hjk=>by
     by_cases h:j < k
     ·exact HT.out j hj h
     ·obtain rfl:j=k:=by omega
      exact he)
    rw [decide_eq_false he] at bs
    clear he
    go_wp2
    exact ⟨⟨k+1,by omega,by go_num,HT2⟩,by simp [intOf];omega⟩
  ·have R:=Lib.hid (HE.out k hlt HT.out)
   go_wp2
   go_ret
   exact ⟨by rw [R.out];rfl,rfl⟩
structure PutI (l:List ByteArray) (s:ByteArray) (k:Nat) (d:Bool) (ss:List ByteArray):Prop where
 le:k≤l.length
 f:d=false→ss=l.take k∧∀ j (hj:j < l.length),j < k→cmpS l[j] s < 0
 t:d=true→posSB l s < k∧ss=insAtB (l.take k) s (posSB l s)
theorem PutI.start (l:List ByteArray) (s:ByteArray):PutI l s 0 false []:=⟨by omega,fun _=>⟨rfl,fun _ _ h=>absurd h (by omega)⟩,fun h=>by cases h⟩
theorem PutI.len {l:List ByteArray} {s:ByteArray} {k:Nat} {d:Bool} {ss:List ByteArray} (h:PutI l s k d ss):ss.length≤l.length+1:=by
 have hk:=h.le
 cases d with
 | false=>rw [(h.f rfl).1,List.length_take];omega
 | true =>
  have h1:=(h.t rfl).1
  rw [(h.t rfl).2,insAt_lenB (by rw [List.length_take];omega),List.length_take];omega
theorem insAt_last {l:List ByteArray} {x:ByteArray}:insAtB l x l.length=l++[x]:=by
 unfold insAtB
 rw [List.take_of_length_le (Nat.le_refl _),List.drop_of_length_le (Nat.le_refl _)]
theorem insAt_snoc {l:List ByteArray} {x y:ByteArray} {p:Nat} (hp:p≤l.length):insAtB l x p++[y]=insAtB (l++[y]) x p:=by
 unfold insAtB
 rw [List.take_append_of_le_length hp,List.drop_append_of_le_length hp,List.append_assoc];rfl
section
variable {l:List ByteArray} {s:ByteArray} {k:Nat} {ss:List ByteArray}
theorem PutI.yes (h:PutI l s k true ss) (hk:k < l.length):PutI l s (k+1) true (ss++[l[k]]):=by
 obtain ⟨h1,h2⟩:=h.t rfl
 refine ⟨hk,fun h=>(by cases h),fun _=>⟨by omega,?_⟩⟩
 rw [h2,insAt_snoc (by rw [List.length_take];omega),← List.take_succ_eq_append_getElem hk]
theorem lt_or (x y:ByteArray) (h:¬ x=y) (h':Op.bytesLess y.toList x.toList=false):cmpS x y < 0:=by
 rw [← str_less,decide_eq_false_iff_not] at h'
 have h1:¬ cmpS x y=0:=fun e=>h ((cmpS_zero x y).1 e)
 have h2:=cmpS_neg x y
 omega
theorem PutI.no (h:PutI l s k false ss) (hk:k < l.length) (hne:¬ l[k]=s) (hb:Op.bytesLess s.toList l[k].toList=false):PutI l s (k+1) false (ss++[l[k]]):=by
 obtain ⟨h1,h2⟩:=h.f rfl
 refine ⟨hk,fun _=>⟨by rw [h1,← List.take_succ_eq_append_getElem hk],fun j hj hjk=>?_⟩,fun h=>(by cases h)⟩
 by_cases h':j < k
 ·exact h2 j hj h'
 ·obtain rfl:j=k:=by omega
  exact lt_or _ _ hne hb
theorem PutI.put (h:PutI l s k false ss) (hk:k < l.length) (hb:Op.bytesLess s.toList l[k].toList=true):PutI l s (k+1) true (ss++[s]++[l[k]]):=by
 obtain ⟨h1,h2⟩:=h.f rfl
 have hp:posSB l s=k:=pos_ofB l s k (by omega) h2 (fun _=>by
  rw [← str_less] at hb
  have:=of_decide_eq_true hb
  have h3:=cmpS_neg s l[k]
  omega)
 refine ⟨hk,fun h=>(by cases h),fun _=>⟨by omega,?_⟩⟩
 have hk':(l.take k).length=k:=by rw [List.length_take];omega
 have e:insAtB (l.take k) s k=l.take k++[s]:=by have:=insAt_last (l:=l.take k) (x:=s);rwa [hk'] at this
 rw [hp,h1,List.take_succ_eq_append_getElem hk,← insAt_snoc (by rw [hk'];exact Nat.le_refl _),e]
theorem PutI.endT (h:PutI l s k true ss) (hk:l.length≤k):ss=insAtB l s (posSB l s):=by
 have:=(h.t rfl).2
 rwa [List.take_of_length_le hk] at this
theorem PutI.endF (h:PutI l s k false ss) (hk:l.length≤k):ss++[s]=insAtB l s (posSB l s):=by
 obtain ⟨h1,h2⟩:=h.f rfl
 have hp:posSB l s=l.length:=pos_ofB l s l.length (Nat.le_refl _) (fun j hj _=>h2 j hj (by omega)) (fun h=>absurd h (by omega))
 rw [hp,h1,List.take_of_length_le hk]
 unfold insAtB
 rw [List.take_of_length_le (Nat.le_refl _),List.drop_of_length_le (Nat.le_refl _)]
end
set_option maxRecDepth 100000 in
set_option maxHeartbeats 4000000 in
theorem ref1_PutB (va:Value) (l:List ByteArray) (s:ByteArray) (w:World) (ha:SlA w 1 va l.length (strs l)) (hn:l.length≤100000) :
  Calls Tryz.prog 135 #[va,.string s] w fun e w' => ∃ v,e=.returned v∧SlA w' 1 v (insSB l s).length (strs (insSB l s))∧Below w.heap.size w w':=by
 have HA:=Lib.hid ha
 have HH:=Lib.hid (ref1_HasB va l s w ha)
 have IY:=Lib.hid (fun h=>insS_hasB (l:=l) (x:=s) h)
 have IN:=Lib.hid (fun h=>insS_notB (l:=l) (x:=s) h)
 have NE:=Lib.hid (fun (h:hasB l s=false) k (hk:k < l.length)=>show ¬ l[k]=s from fun e=>absurd (hasB_yes hk e) (by rw [h];exact Bool.false_ne_true))
 generalize hasB l s=b at HH IY IN NE
 have hmax:=ha.max
 obtain ⟨ao,cap,hva⟩:=ha.form
 subst hva
 clear ha
 go_enter Tryz.func135,Tryz.ntmps135
 go_wp2_with fail
 refine HH.out.mono ?_
 rintro e w1 ⟨rfl,rfl⟩
 cases b with
 | true =>
  go_wp2
  go_ret
  exact ⟨_,rfl,by rw [IY.out (by first | rfl | trivial)];exact HA.out,Below.refl _ _⟩
 | false =>
  obtain ⟨wA,hwA⟩:∃ wA,wA=w1:=⟨_,rfl⟩
  subst hwA
  have INS:=Lib.hid (IN.out rfl)
  have NEQ:=Lib.hid (NE.out rfl)
  clear IY IN NE
  go_wp2_with fail
  go_loopw [5,6,15] (fun vo dv i wr => ∃ (k:Nat) (d:Bool) (ss:List ByteArray),k≤l.length∧i=.int .i64 k∧dv=.bool d∧Hid (PutI l s k d ss)∧Hid (Below wA.heap.size wA wr)∧Hid (wr.ownsRow wA.heap.size 9 1 vo ss.length (strs ss))) (fun _ _ i _=>l.length - (intOf i).toNat)
  case atStart=>exact ⟨0,false,[],by omega,rfl,rfl,Lib.hid (PutI.start l s),Lib.hid (Below.refl _ _),Lib.hid (World.ownsRow_nil _ _ _ _)⟩
  case round =>
   obtain ⟨k,d,ss,hk,rfl,rfl,HC,HB,HO⟩:=hrel
   obtain ⟨oo,oc,rfl⟩:=own_form HO.out
   have hss:ss.length≤100002:=by have:=HC.out.len;omega
   by_cases hlt:k < l.length
   ·obtain ⟨b1,o1,c1,he1,hc1,hm1,hb1,hx1⟩:=HA.out.pos (by omega)
    simp only [Value.slice.injEq,true_and] at he1
    obtain ⟨rfl,rfl⟩:=he1
    have p0:=(HB.out.cell (p:=⟨b1,o1+k,none⟩) hb1).trans (hx1 k _ (strs_get hlt))
    have hbr:b1 < wr.heap.size:=Nat.lt_of_lt_of_le hb1 HB.out.size
    have PY:=Lib.hid (fun (h:PutI l s k true ss)=>h.yes hlt)
    have PN:=Lib.hid (fun (h:PutI l s k false ss) e=>h.no hlt (NEQ.out k hlt) e)
    have PP:=Lib.hid (fun (h:PutI l s k false ss) e=>h.put hlt e)
    clear hx1
    generalize l[k]=x at *
    cases d with
    | true =>
     have HC':=HC.out
     have hown:=HO.out
     go_wp2_with (at_builtin;refine halt_ ?_)
     unfold Halt_
     refine app_own Tryz.underlying38 str_info rfl (by decide) (by decide) rfl _ _ rfl wA.heap.size rfl (hown.alloc _) [.string x] rfl (heap_new1 _ _) rfl (str1 _) ?_ ?_ ?_
     ·omega
     ·have:=HB.out.size;simp;omega
     intro a' cap' w3 hown' hgrow
     obtain ⟨q1,q2⟩:=own_push (x:=x) HB.out hown hown' hgrow
     have HO1:=Lib.hid q1
     have HB1:=Lib.hid q2
     clear hown hown' hgrow q1 q2
     go_wp2_with fail
     exact ⟨⟨k+1,true,ss++[x],by omega,by go_num,rfl,Lib.hid (PY.out HC'),HB1,HO1⟩,by simp [intOf];omega⟩
    | false =>
     have HC':=HC.out
     cases hbl:Op.bytesLess s.toList x.toList with
     | false =>
      have hown:=HO.out
      go_wp2_with (at_builtin;refine halt_ ?_)
      unfold Halt_
      refine app_own Tryz.underlying38 str_info rfl (by decide) (by decide) rfl _ _ rfl wA.heap.size rfl (hown.alloc _) [.string x] rfl (heap_new1 _ _) rfl (str1 _) ?_ ?_ ?_
      ·omega
      ·have:=HB.out.size;simp;omega
      intro a' cap' w3 hown' hgrow
      obtain ⟨q1,q2⟩:=own_push (x:=x) HB.out hown hown' hgrow
      have HO1:=Lib.hid q1
      have HB1:=Lib.hid q2
      clear hown hown' hgrow q1 q2
      go_wp2_with fail
      exact ⟨⟨k+1,false,ss++[x],by omega,by go_num,rfl,Lib.hid (PN.out HC' hbl),HB1,HO1⟩,by simp [intOf];omega⟩
     | true =>
      have hown:=HO.out
      go_wp2_with (at_builtin;refine halt_ ?_)
      unfold Halt_
      refine app_own Tryz.underlying38 str_info rfl (by decide) (by decide) rfl _ _ rfl wA.heap.size rfl (hown.alloc _) [.string s] rfl (heap_new1 _ _) rfl (str1 _) ?_ ?_ ?_
      ·omega
      ·have:=HB.out.size;simp;omega
      intro a' cap' w3 hown' hgrow
      obtain ⟨q1,q2⟩:=own_push (x:=s) HB.out hown hown' hgrow
      have HO1:=Lib.hid q1
      have HB1:=Lib.hid q2
      clear hown hown' hgrow q1 q2
      have hown:=HO1.out
      go_wp2_with (at_builtin;refine halt_ ?_)
      unfold Halt_
      refine app_own Tryz.underlying38 str_info rfl (by decide) (by decide) rfl _ _ rfl wA.heap.size rfl (hown.alloc _) [.string x] rfl (heap_new1 _ _) rfl (str1 _) ?_ ?_ ?_
      ·(simp only [List.length_append,List.length_cons,List.length_nil];omega)
      ·have:=HB1.out.size;simp;omega
      intro a' cap' w3 hown' hgrow
      obtain ⟨q1,q2⟩:=own_push (x:=x) HB1.out hown hown' hgrow
      have HO2:=Lib.hid q1
      have HB2:=Lib.hid q2
      clear hown hown' hgrow q1 q2
      go_wp2_with fail
      refine ⟨⟨k+1,true,ss++[s]++[x],by omega,by go_num,rfl,Lib.hid (PP.out HC' hbl),HB2,Lib.hid (by have h:=HO2.out;rw [show (ss++[s]).length+1=ss.length+1+1 by simp] at h;exact h)⟩,by simp [intOf];omega⟩
   ·cases d with
    | true =>
     have HC':=HC.out
     have HSL:=Lib.hid (Sl.of_own HO.out).a
     go_wp2
     go_ret
     exact ⟨_,rfl,by rw [INS.out,← HC'.endT (by omega)];exact HSL.out,HB.out⟩
    | false =>
     have HC':=HC.out
     have hown:=HO.out
     go_wp2_with (at_builtin;refine halt_ ?_)
     unfold Halt_
     refine app_own Tryz.underlying38 str_info rfl (by decide) (by decide) rfl _ _ rfl wA.heap.size rfl (hown.alloc _) [.string s] rfl (heap_new1 _ _) rfl (str1 _) ?_ ?_ ?_
     ·omega
     ·have:=HB.out.size;simp;omega
     intro a' cap' w3 hown' hgrow
     obtain ⟨q1,q2⟩:=own_push (x:=s) HB.out hown hown' hgrow
     have HO1:=Lib.hid q1
     have HB1:=Lib.hid q2
     clear hown hown' hgrow q1 q2
     have HSL:=Lib.hid (Sl.of_own HO1.out).a
     go_wp2
     go_ret
     exact ⟨_,rfl,by rw [INS.out,← HC'.endF (by omega)];exact HSL.out,HB1.out⟩
end
end Go.Proofs.YtilgbodgmkmjjaaGreatDoor
