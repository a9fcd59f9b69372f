/- Parts: Ref03 SynMore Scan ScanTok SynParse Ref02 RefParse SynLaw SynOrd CmpLaw OrdLaw -/
import Derived.Test.YtomhekohcadijaaGreatDoorPart1
import Derived.Test.YtomhekohcadijaaGreatDoorPart2
import Derived.Deep.RegionWith
import Derived.Test.YtomhekohcadijaaGreatDoorShelf
import Derived.Maps.AppendAt
import Derived.Test.YtomhekohcadijaaGreatDoorShelf2
import Derived.Lib.TrimByte
import Derived.Deep.RegionHeld3
namespace Go.Proofs.YtomhekohcadijaaGreatDoor
section
open Go.RowKit Go.Shelf

theorem lessR_def (a b c d:ByteArray):lessR ⟨a,b⟩ ⟨c,d⟩=if a=c then Op.bytesLess b.toList d.toList else Op.bytesLess a.toList c.toList:=by
 unfold lessR cmpR orI
 dsimp only
 rw [toList_bl,toList_bl,toList_bl,toList_bl,cmp_less,cmp_less]
 by_cases h:a=c
 ·rw [if_pos h,if_pos ((cmpS_zero a c).2 h)];rfl
 ·rw [if_neg h,if_neg (fun e=>h ((cmpS_zero a c).1 e))];rfl
set_option maxHeartbeats 400000 in
theorem ref3_Less (x y:Rl) (w:World):Calls Tryz.prog 58 #[rv x,rv y] w fun e w'=>e=.returned (.bool (lessR x y))∧Below w.heap.size w w':=by
 obtain ⟨a,b⟩:=x
 obtain ⟨c,d⟩:=y
 have E:=Lib.hid (lessR_def a b c d)
 by_cases h:a=c
 ·have hb:(a.toList == c.toList)=true:=by rw [beq_str];simp [h]
  have H:=Lib.hid h
  clear h
  go_enter Tryz.func58,Tryz.ntmps58
  go_wp2
  go_ret
  exact ⟨ret_b (by rw [E.out,if_pos H.out]),((Below.refl _ _).alloc (Nat.le_refl _) _).alloc (by simp) _⟩
 ·have hb:(a.toList == c.toList)=false:=by rw [beq_str];simp [h]
  have H:=Lib.hid h
  clear h
  go_enter Tryz.func58,Tryz.ntmps58
  go_wp2
  go_ret
  exact ⟨ret_b (by rw [E.out,if_neg H.out]),((Below.refl _ _).alloc (Nat.le_refl _) _).alloc (by simp) _⟩
end
section
open Go.RowKit Go.Shelf

theorem normal_no (k:Int) (h:Rl) (who:ByteArray) (a b:Rl) (via:ByteArray) (h4:¬ k=4):normalS ⟨k,h,who,a,b,via⟩=⟨k,h,who,a,b,via⟩:=by
 unfold normalS;rw [if_neg (fun x=>h4 x.1)]
theorem normal_same (h:Rl) (who:ByteArray) (a b:Rl) (via:ByteArray) (hl:lessR b a=false):normalS ⟨4,h,who,a,b,via⟩=⟨4,h,who,a,b,via⟩:=by
 unfold normalS;rw [if_neg (fun x=>by rw [hl] at x;cases x.2)]
theorem normal_swap (h:Rl) (who:ByteArray) (a b:Rl) (via:ByteArray) (hl:lessR b a=true):normalS ⟨4,h,who,a,b,via⟩=⟨4,h,who,b,a,via⟩:=by
 unfold normalS;rw [if_pos ⟨rfl,hl⟩]

set_option maxRecDepth 100000 in
set_option maxHeartbeats 4000000 in
theorem syn_Normal (s:St) (w:World) :
  Calls Tryz.prog 159 #[sv s] w fun e w'=>e=.returned (sv (normalS s))∧Below w.heap.size w w':=by
 obtain ⟨k,⟨h1,h2⟩,who,⟨a1,a2⟩,⟨b1,b2⟩,via⟩:=s
 by_cases k4:k=4
 ·subst k4
  cases hl:lessR ⟨b1,b2⟩ ⟨a1,a2⟩ with
  | true =>
   have R:=Lib.hid (normal_swap ⟨h1,h2⟩ who ⟨a1,a2⟩ ⟨b1,b2⟩ via hl)
   have HL:=Lib.hid hl
   clear hl
   go_enter Tryz.func159,Tryz.ntmps159
   go_wp2_with (go_at_call 109;refine (syn_Less ⟨b1,b2⟩ ⟨a1,a2⟩ _).mono ?_;rw [HL.out];rintro e w1 ⟨rfl,hb⟩;obtain ⟨⟨ca,fa,za⟩,⟨cb,fb,zb⟩⟩:=keep2 hb)
   refine bodyPost_ret (v:=sv ⟨4,⟨h1,h2⟩,who,⟨b1,b2⟩,⟨a1,a2⟩,via⟩) (by simp [results,Tryz.results159,go_sem,cb]) rfl ⟨by rw [R.out],?_⟩
   (repeat' (first | with_reducible exact Below.refl _ _ | with_reducible (refine Below.setCell ?_ ?_ _) | with_reducible (refine Below.alloc ?_ ?_ _) | with_reducible (refine below_drew ?_) | with_reducible (refine below_drewN ?_ _) | with_reducible (refine Below.trans ?_ (Below.mono (by assumption) ?_)) | omega | (simp;done) | (simp;omega)))
  | false =>
   have R:=Lib.hid (normal_same ⟨h1,h2⟩ who ⟨a1,a2⟩ ⟨b1,b2⟩ via hl)
   have HL:=Lib.hid hl
   clear hl
   go_enter Tryz.func159,Tryz.ntmps159
   go_wp2_with (go_at_call 109;refine (syn_Less ⟨b1,b2⟩ ⟨a1,a2⟩ _).mono ?_;rw [HL.out];rintro e w1 ⟨rfl,hb⟩;obtain ⟨⟨ca,fa,za⟩,⟨cb,fb,zb⟩⟩:=keep2 hb)
   refine bodyPost_ret (v:=sv ⟨4,⟨h1,h2⟩,who,⟨a1,a2⟩,⟨b1,b2⟩,via⟩) (by simp [results,Tryz.results159,go_sem,cb]) rfl ⟨by rw [R.out],?_⟩
   (repeat' (first | with_reducible exact Below.refl _ _ | with_reducible (refine Below.setCell ?_ ?_ _) | with_reducible (refine Below.alloc ?_ ?_ _) | with_reducible (refine below_drew ?_) | with_reducible (refine below_drewN ?_ _) | with_reducible (refine Below.trans ?_ (Below.mono (by assumption) ?_)) | omega | (simp;done) | (simp;omega)))
 ·have R:=Lib.hid (normal_no k ⟨h1,h2⟩ who ⟨a1,a2⟩ ⟨b1,b2⟩ via k4)
  have q4:(k == 4)=false:=by rw [beq_eq_false_iff_ne];exact k4
  clear k4
  go_enter Tryz.func159,Tryz.ntmps159
  go_wp2
  refine bodyPost_ret (v:=sv ⟨k,⟨h1,h2⟩,who,⟨a1,a2⟩,⟨b1,b2⟩,via⟩) (by simp [results,Tryz.results159,go_sem]) rfl ⟨by rw [R.out],?_⟩
  (repeat' (first | with_reducible exact Below.refl _ _ | with_reducible (refine Below.setCell ?_ ?_ _) | with_reducible (refine Below.alloc ?_ ?_ _) | with_reducible (refine below_drew ?_) | with_reducible (refine below_drewN ?_ _) | with_reducible (refine Below.trans ?_ (Below.mono (by assumption) ?_)) | omega | (simp;done) | (simp;omega)))

theorem printS_no (s:St) (h:rightS s=false):printS s=emp:=by unfold printS;rw [h];rfl
theorem printS1 (h:Rl) (who:ByteArray) (a b:Rl) (via:ByteArray) (hr:rightS ⟨1,h,who,a,b,via⟩=true):printS ⟨1,h,who,a,b,via⟩=roleT h++⟨#[32,60,45,32]⟩++who:=by unfold printS;rw [hr];rfl
theorem printS2 (h:Rl) (who:ByteArray) (a b:Rl) (via:ByteArray) (hr:rightS ⟨2,h,who,a,b,via⟩=true):printS ⟨2,h,who,a,b,via⟩=roleT h++⟨#[32,60,45,32]⟩++roleT a:=by unfold printS;rw [hr];rfl
theorem printS3 (h:Rl) (who:ByteArray) (a b:Rl) (via:ByteArray) (hr:rightS ⟨3,h,who,a,b,via⟩=true):printS ⟨3,h,who,a,b,via⟩=roleT h++⟨#[32,60,45,32]⟩++(roleT a++⟨#[46]⟩++via):=by unfold printS;rw [hr];rfl
theorem printS4 (h:Rl) (who:ByteArray) (a b:Rl) (via:ByteArray) (hr:rightS ⟨4,h,who,a,b,via⟩=true):printS ⟨4,h,who,a,b,via⟩=roleT h++⟨#[32,60,45,32]⟩++(roleT a++⟨#[32,38,32]⟩++roleT b):=by unfold printS;rw [hr];rfl
theorem roleT_size (r:Rl):(roleT r).size=r.o.size+1+r.n.size:=by simp [roleT,ByteArray.size_append];rfl
theorem roleT_le (r:Rl) (h:r.le 4294967):(roleT r).size≤8600000:=by rw [roleT_size];have:=h.1;have:=h.2;omega
theorem app_assoc (a b c:ByteArray):a++b++c=a++(b++c):=by
 obtain ⟨⟨x⟩⟩:=a;obtain ⟨⟨y⟩⟩:=b;obtain ⟨⟨z⟩⟩:=c
 apply bl_inj.1
 rw [bl_append,bl_append,bl_append,bl_append,List.append_assoc]

set_option maxRecDepth 100000 in
set_option maxHeartbeats 4000000 in
theorem syn_Print (s:St) (w:World) (hs:s.le 4294967) :
  Calls Tryz.prog 82 #[sv s] w fun e w'=>e=.returned (.string (printS s))∧Below w.heap.size w w':=by
 have hle:=Lib.hid hs
 clear hs
 cases hr:rightS s with
 | false =>
  have R:=Lib.hid (printS_no s hr)
  have HR:=Lib.hid hr
  obtain ⟨k,⟨h1,h2⟩,who,⟨a1,a2⟩,⟨b1,b2⟩,via⟩:=s
  clear hr
  go_enter Tryz.func82,Tryz.ntmps82
  go_wp2_with (go_at_call 114;refine (syn_Right ⟨k,⟨h1,h2⟩,who,⟨a1,a2⟩,⟨b1,b2⟩,via⟩ _ hle.out).mono ?_;rw [HR.out];rintro e w1 ⟨rfl,hb⟩)
  go_ret
  refine ⟨ret_s (by rw [R.out]),((Below.refl _ _).alloc (Nat.le_refl _) _).trans (hb.mono (by simp))⟩
 | true =>
  obtain ⟨k,⟨h1,h2⟩,who,⟨a1,a2⟩,⟨b1,b2⟩,via⟩:=s
  have hTh:=roleT_le ⟨h1,h2⟩ hle.out.1
  have hTa:=roleT_le ⟨a1,a2⟩ hle.out.2.2.1
  have hTb:=roleT_le ⟨b1,b2⟩ hle.out.2.2.2.1
  have hwho:who.size≤4294967:=hle.out.2.1
  have hvia:via.size≤4294967:=hle.out.2.2.2.2
  by_cases k3:k=3
  ·subst k3
   have R:=Lib.hid (printS3 ⟨h1,h2⟩ who ⟨a1,a2⟩ ⟨b1,b2⟩ via hr)
   have HR:=Lib.hid hr
   clear hr
   go_enter Tryz.func82,Tryz.ntmps82
   go_wp2_with (first | (go_at_call 114;refine (syn_Right ⟨3,⟨h1,h2⟩,who,⟨a1,a2⟩,⟨b1,b2⟩,via⟩ _ hle.out).mono ?_;rw [HR.out];rintro e w1 ⟨rfl,hb⟩;obtain ⟨ca,fa,za⟩:=keep1 hb) | (go_at_call_of 103 (Value.agg #[.string h1,.string h2]);refine (syn_PrintRole ⟨h1,h2⟩ _ hle.out.1).mono ?_;rintro e w2 ⟨rfl,hb2⟩;obtain ⟨ca2,fa2,za2⟩:=Blk.below ⟨ca,fa,za⟩ hb2))
   have hnr:=Blk.near ⟨ca2,fa2,za2⟩
   refine region_near (by kernel_rfl) (by kernel_rfl) ?_
   repeat (go_big_quiet_step ((first | (go_at_call_of 103 (Value.agg #[.string a1,.string a2]);exact Calls.near (syn_PrintRole ⟨a1,a2⟩ _ hle.out.2.2.1)) | (go_at_call_of 103 (Value.agg #[.string b1,.string b2]);exact Calls.near (syn_PrintRole ⟨b1,b2⟩ _ hle.out.2.2.2.1)))))
   refine wpQuiet_nil ?_
   rintro w3 ⟨⟨w3,hb3⟩,rfl⟩
   go_wp2
   go_ret
   refine ⟨ret_s (by rw [R.out];simp only [app_assoc]),?_⟩
   (repeat' (first | with_reducible exact Below.refl _ _ | with_reducible (refine Below.setCell ?_ ?_ _) | with_reducible (refine Below.alloc ?_ ?_ _) | with_reducible (refine below_drew ?_) | with_reducible (refine below_drewN ?_ _) | with_reducible (refine Below.trans ?_ (Below.mono (by assumption) ?_)) | omega | (simp;done) | (simp;omega)))
  by_cases k4:k=4
  ·subst k4
   have R:=Lib.hid (printS4 ⟨h1,h2⟩ who ⟨a1,a2⟩ ⟨b1,b2⟩ via hr)
   have HR:=Lib.hid hr
   clear hr
   go_enter Tryz.func82,Tryz.ntmps82
   go_wp2_with (first | (go_at_call 114;refine (syn_Right ⟨4,⟨h1,h2⟩,who,⟨a1,a2⟩,⟨b1,b2⟩,via⟩ _ hle.out).mono ?_;rw [HR.out];rintro e w1 ⟨rfl,hb⟩;obtain ⟨ca,fa,za⟩:=keep1 hb) | (go_at_call_of 103 (Value.agg #[.string h1,.string h2]);refine (syn_PrintRole ⟨h1,h2⟩ _ hle.out.1).mono ?_;rintro e w2 ⟨rfl,hb2⟩;obtain ⟨ca2,fa2,za2⟩:=Blk.below ⟨ca,fa,za⟩ hb2))
   have hnr:=Blk.near ⟨ca2,fa2,za2⟩
   refine region_near (by kernel_rfl) (by kernel_rfl) ?_
   repeat (go_big_quiet_step ((first | (go_at_call_of 103 (Value.agg #[.string a1,.string a2]);exact Calls.near (syn_PrintRole ⟨a1,a2⟩ _ hle.out.2.2.1)) | (go_at_call_of 103 (Value.agg #[.string b1,.string b2]);exact Calls.near (syn_PrintRole ⟨b1,b2⟩ _ hle.out.2.2.2.1)))))
   refine wpQuiet_nil ?_
   rintro w3 ⟨⟨w3,hb3⟩,rfl⟩
   go_wp2
   go_ret
   refine ⟨ret_s (by rw [R.out];simp only [app_assoc]),?_⟩
   (repeat' (first | with_reducible exact Below.refl _ _ | with_reducible (refine Below.setCell ?_ ?_ _) | with_reducible (refine Below.alloc ?_ ?_ _) | with_reducible (refine below_drew ?_) | with_reducible (refine below_drewN ?_ _) | with_reducible (refine Below.trans ?_ (Below.mono (by assumption) ?_)) | omega | (simp;done) | (simp;omega)))
  by_cases k2:k=2
  ·subst k2
   have R:=Lib.hid (printS2 ⟨h1,h2⟩ who ⟨a1,a2⟩ ⟨b1,b2⟩ via hr)
   have HR:=Lib.hid hr
   clear hr
   go_enter Tryz.func82,Tryz.ntmps82
   go_wp2_with (first | (go_at_call 114;refine (syn_Right ⟨2,⟨h1,h2⟩,who,⟨a1,a2⟩,⟨b1,b2⟩,via⟩ _ hle.out).mono ?_;rw [HR.out];rintro e w1 ⟨rfl,hb⟩;obtain ⟨ca,fa,za⟩:=keep1 hb) | (go_at_call_of 103 (Value.agg #[.string h1,.string h2]);refine (syn_PrintRole ⟨h1,h2⟩ _ hle.out.1).mono ?_;rintro e w2 ⟨rfl,hb2⟩;obtain ⟨ca2,fa2,za2⟩:=Blk.below ⟨ca,fa,za⟩ hb2) | (go_at_call_of 103 (Value.agg #[.string a1,.string a2]);refine (syn_PrintRole ⟨a1,a2⟩ _ hle.out.2.2.1).mono ?_;rintro e w3 ⟨rfl,hb3⟩))
   go_ret
   refine ⟨ret_s (by rw [R.out]),?_⟩
   (repeat' (first | with_reducible exact Below.refl _ _ | with_reducible (refine Below.setCell ?_ ?_ _) | with_reducible (refine Below.alloc ?_ ?_ _) | with_reducible (refine below_drew ?_) | with_reducible (refine below_drewN ?_ _) | with_reducible (refine Below.trans ?_ (Below.mono (by assumption) ?_)) | omega | (simp;done) | (simp;omega)))
  by_cases k1:k=1
  ·subst k1
   have R:=Lib.hid (printS1 ⟨h1,h2⟩ who ⟨a1,a2⟩ ⟨b1,b2⟩ via hr)
   have HR:=Lib.hid hr
   clear hr
   go_enter Tryz.func82,Tryz.ntmps82
   go_wp2_with (first | (go_at_call 114;refine (syn_Right ⟨1,⟨h1,h2⟩,who,⟨a1,a2⟩,⟨b1,b2⟩,via⟩ _ hle.out).mono ?_;rw [HR.out];rintro e w1 ⟨rfl,hb⟩;obtain ⟨ca,fa,za⟩:=keep1 hb) | (go_at_call_of 103 (Value.agg #[.string h1,.string h2]);refine (syn_PrintRole ⟨h1,h2⟩ _ hle.out.1).mono ?_;rintro e w2 ⟨rfl,hb2⟩;obtain ⟨ca2,fa2,za2⟩:=Blk.below ⟨ca,fa,za⟩ hb2))
   go_ret
   refine ⟨ret_s (by rw [R.out]),?_⟩
   (repeat' (first | with_reducible exact Below.refl _ _ | with_reducible (refine Below.setCell ?_ ?_ _) | with_reducible (refine Below.alloc ?_ ?_ _) | with_reducible (refine below_drew ?_) | with_reducible (refine below_drewN ?_ _) | with_reducible (refine Below.trans ?_ (Below.mono (by assumption) ?_)) | omega | (simp;done) | (simp;omega)))
  rw [rightS0 k _ _ _ _ _ k1 k2 k3 k4] at hr
  cases hr
end
section
open Go.RowKit Go.Shelf

theorem scan_bare (s:ByteArray) (w:World) (hs:s.size < 4294967281) (hg:Gl w) :
  Calls Tryz.prog 179 #[.string s] w fun e w'=>e=.returned (.string ⟨(bare (bl s)).toArray⟩)∧∃ n,w'=w.drewN n:=by
 obtain ⟨m,hm⟩:=hg
 have hcon:=Tryz.strings_Cut s ⟨#[35]⟩ m w hs hm
 rw [show (⟨#[35]⟩:ByteArray).data.toList=[35] from rfl,cut_bare] at hcon
 generalize (Lib.cut s.data.toList [35]).2.1=x at hcon
 generalize (Lib.cut s.data.toList [35]).2.2=y at hcon
 generalize bare (bl s)=r at hcon ⊢
 have H:=Lib.hid hcon
 clear hcon hm
 go_enter Tryz.func179,Tryz.ntmps179
 go_wp2_with (go_at_call 91;refine H.out.mono ?_;rintro e w' ⟨rfl,n,rfl⟩)
 go_ret
 exact ⟨rfl,n,rfl⟩

set_option maxHeartbeats 400000 in
theorem scan_word (s:ByteArray) (a:Nat) (w:World) (hs:s.size≤9223372036854775) (ha:a≤s.size) :
  Calls Tryz.prog 237 #[.string s,.int .i64 a] w fun e w'=>e=.returned (.int .i64 (wordOf ((bl s).drop a)).length)∧w=w':=by
 go_enter Tryz.func237,Tryz.ntmps237
 go_wp2
 go_loop [5] (fun i => ∃ k:Nat,a+k≤s.size∧i=.int .i64 k∧∀ c∈((bl s).drop a).take k,alnum c=true) (fun i=>s.size - (intOf i).toNat)
 case atStart=>exact ⟨0,by omega,rfl,by simp⟩
 case round =>
  obtain ⟨k,hk,rfl,hal⟩:=hrel
  have HA:=Lib.hid hal
  clear hal
  have hlen:k≤((bl s).drop a).length:=by rw [List.length_drop,bl_len];omega
  by_cases hlt:a+k < s.size
  ·have hc:=bl_at s a k hlt
   have hb:=bl_A s (a+k) hlt
   have HC:=Lib.hid (names_IsPrin ({ data:=#[65] }++s.extract (a+k) (a+k+1)) w (by rw [size_A s _ hlt];omega))
   cases hx:alnum s[a+k] with
   | true =>
    have HM:=Lib.hid (word_more _ _ _ HA.out hc hx)
    have HB:=Lib.hid ((congrArg (isP 65 90) hb).trans ((isP_A _).trans hx))
    clear hc hb hx hlen
    go_wp2_with (go_at_call 164;refine HC.out.mono ?_;rw [HB.out];rintro e w' ⟨rfl,rfl⟩)
    exact ⟨⟨k+1,by omega,by go_num,HM.out⟩,by simp [intOf];omega⟩
   | false =>
    have HM:=Lib.hid (word_stop _ _ HA.out hlen (fun c h=>by rw [hc] at h;cases h;exact hx))
    have HB:=Lib.hid ((congrArg (isP 65 90) hb).trans ((isP_A _).trans hx))
    clear hc hb hx hlen
    go_wp2_with (go_at_call 164;refine HC.out.mono ?_;rw [HB.out];rintro e w' ⟨rfl,rfl⟩)
    go_ret
    exact ⟨ret_int (by rw [HM.out]),rfl⟩
  ·have HM:=Lib.hid (word_stop _ _ HA.out hlen (fun _ h=>by rw [bl_at_end s a k hlt] at h;cases h))
   clear hlen
   go_wp2
   go_ret
   exact ⟨ret_int (by rw [HM.out]),rfl⟩


set_option maxHeartbeats 1000000 in
theorem scan_one (s:ByteArray) (a:Nat) (w:World) (hs:s.size≤9223372036854775) (ha:a < s.size) :
  Calls Tryz.prog 180 #[.string s,.int .i64 a] w fun e w'=>e=.returned (.agg (oneTok ((bl s).drop a) a).cells.toArray)∧Below w.heap.size w w':=by
 have hd:=bl_drop s a ha
 have HP:=Lib.hid (fun W=>Tryz.strings_HasPrefix (s.extract a s.size) ⟨#[60,45]⟩ W)
 have HW:=Lib.hid (fun W=>scan_word s a W hs (by omega))
 have h0:0≤(s[a].toNat:Int):=by omega
 have HX:=Lib.hid (str_eq (bl_one s a ha))
 by_cases h46:s[a].toNat=46
 ·have e:(oneTok ((bl s).drop a) a)=⟨3,[s[a]],a+1⟩:=by rw [hd];simp [oneTok,h46]
  have b46:((s[a].toNat:Int) == 46)=true:=by rw [beq_iff_eq];omega
  have E:=Lib.hid e
  clear e hd h46
  go_enter Tryz.func180,Tryz.ntmps180
  go_wp2_with fail
  refine bodyPost_ret (v:=.agg #[.int .i64 3,.string (s.extract a (a+1)),.int .i64 (a+1)]) (by simp [results,Tryz.results180,go_sem]) rfl ⟨?_,?_⟩
  ·rw [E.out,HX.out];rfl
  ·exact ((Below.refl _ _).alloc (Nat.le_refl _) _).alloc (by simp) _
 ·have b46:((s[a].toNat:Int) == 46)=false:=by rw [beq_eq_false_iff_ne];omega
  by_cases h38:s[a].toNat=38
  ·have e:(oneTok ((bl s).drop a) a)=⟨5,[s[a]],a+1⟩:=by rw [hd];simp [oneTok,h38]
   have b38:((s[a].toNat:Int) == 38)=true:=by rw [beq_iff_eq];omega
   have E:=Lib.hid e
   clear e hd h46 h38
   go_enter Tryz.func180,Tryz.ntmps180
   go_wp2_with fail
   refine bodyPost_ret (v:=.agg #[.int .i64 5,.string (s.extract a (a+1)),.int .i64 (a+1)]) (by simp [results,Tryz.results180,go_sem]) rfl ⟨?_,?_⟩
   ·rw [E.out,HX.out];rfl
   ·exact ((Below.refl _ _).alloc (Nat.le_refl _) _).alloc (by simp) _
  ·have b38:((s[a].toNat:Int) == 38)=false:=by rw [beq_eq_false_iff_ne];omega
   cases hp:Lib.hasPrefix (s.extract a s.size).data.toList [60,45] with
   | true =>
    have hp':[60,45].isPrefixOf ((bl s).drop a)=true:=by rw [← ssub s a];exact hp
    have e:(oneTok ((bl s).drop a) a)=⟨4,[60,45],a+1⟩:=by rw [hd] at hp' ⊢;simp only [oneTok,h46,h38,hp',if_false,if_true]
    have E:=Lib.hid e
    have HH:=Lib.hid hp
    clear e hd h46 h38 hp hp'
    go_enter Tryz.func180,Tryz.ntmps180
    go_wp2_with (go_at_call 236;refine (HP.out _).mono ?_;rw [show Lib.hasPrefix (s.extract a s.size).data.toList (⟨#[60,45]⟩:ByteArray).data.toList=true from HH.out];rintro e w' ⟨rfl,rfl⟩)
    refine bodyPost_ret (v:=.agg #[.int .i64 4,.string ⟨#[60,45]⟩,.int .i64 (a+1)]) (by simp [results,Tryz.results180,go_sem]) rfl ⟨?_,?_⟩
    ·rw [E.out];rfl
    ·exact ((Below.refl _ _).alloc (Nat.le_refl _) _).alloc (by simp) _
   | false =>
    have hp':[60,45].isPrefixOf ((bl s).drop a)=false:=by rw [← ssub s a];exact hp
    have HL:=sword_le s a (by omega)
    have HS:=Lib.hid (str_eq (sword s a))
    have HH:=Lib.hid hp
    by_cases hb:65≤(s[a].toNat:Int)∧(s[a].toNat:Int)≤90
    ·obtain ⟨hb1,hb2⟩:=hb
     have e:(oneTok ((bl s).drop a) a)=⟨1,wordOf ((bl s).drop a),a+1⟩:=by
      have hbt:btw s[a].toNat 65 90=true:=by simp [btw];omega
      rw [hd] at hp' ⊢;simp only [oneTok,h46,h38,hp',hbt,if_false,if_true];rfl
     have E:=Lib.hid e
     clear e hd h46 h38 hp hp'
     generalize hn:(wordOf ((bl s).drop a)).length=n at HW HL HS
     clear hn
     go_enter Tryz.func180,Tryz.ntmps180
     go_wp2_with (first | (go_at_call 236;refine (HP.out _).mono ?_;rw [show Lib.hasPrefix (s.extract a s.size).data.toList (⟨#[60,45]⟩:ByteArray).data.toList=false from HH.out];rintro e w' ⟨rfl,rfl⟩) | (go_at_call 237;refine (HW.out _).mono ?_;rintro e w' ⟨rfl,rfl⟩))
     refine bodyPost_ret (v:=.agg #[.int .i64 1,.string (s.extract a (a+n)),.int .i64 (a+1)]) (by simp [results,Tryz.results180,go_sem]) rfl ⟨?_,?_⟩
     ·rw [E.out,HS.out];rfl
     ·exact ((Below.refl _ _).alloc (Nat.le_refl _) _).alloc (by simp) _
    ·have hbt:btw s[a].toNat 65 90=false:=by simp [btw];omega
     have hnb:65≤(s[a].toNat:Int)→90 < (s[a].toNat:Int):=by omega
     by_cases hc:97≤(s[a].toNat:Int)∧(s[a].toNat:Int)≤122
     ·obtain ⟨hc1,hc2⟩:=hc
      have hb1:65≤(s[a].toNat:Int):=by omega
      have hb2:90 < (s[a].toNat:Int):=by omega
      have e:(oneTok ((bl s).drop a) a)=⟨2,wordOf ((bl s).drop a),a+1⟩:=by
       have hct:btw s[a].toNat 97 122=true:=by simp [btw];omega
       rw [hd] at hp' ⊢;simp only [oneTok,h46,h38,hp',hbt,hct,if_false,if_true];rfl
      have E:=Lib.hid e
      clear e hd h46 h38 hp hp' hbt hnb
      generalize hn:(wordOf ((bl s).drop a)).length=n at HW HL HS
      clear hn
      go_enter Tryz.func180,Tryz.ntmps180
      go_wp2_with (first | (go_at_call 236;refine (HP.out _).mono ?_;rw [show Lib.hasPrefix (s.extract a s.size).data.toList (⟨#[60,45]⟩:ByteArray).data.toList=false from HH.out];rintro e w' ⟨rfl,rfl⟩) | (go_at_call 237;refine (HW.out _).mono ?_;rintro e w' ⟨rfl,rfl⟩))
      refine bodyPost_ret (v:=.agg #[.int .i64 2,.string (s.extract a (a+n)),.int .i64 (a+1)]) (by simp [results,Tryz.results180,go_sem];decide) rfl ⟨?_,?_⟩
      ·rw [E.out,HS.out];rfl
      ·exact ((Below.refl _ _).alloc (Nat.le_refl _) _).alloc (by simp) _
     ·have e:(oneTok ((bl s).drop a) a)=⟨0,[s[a]],a+1⟩:=by
       have hct:btw s[a].toNat 97 122=false:=by simp [btw];omega
       rw [hd] at hp' ⊢;simp only [oneTok,h46,h38,hp',hbt,hct,if_false,Bool.false_eq_true]
      have E:=Lib.hid e
      clear e hd h46 h38 hp hp' hbt
      by_cases hb1:65≤(s[a].toNat:Int)
      ·have hb2:=hnb hb1
       clear hnb
       by_cases hc1:97≤(s[a].toNat:Int)
       ·have hc2:122 < (s[a].toNat:Int):=by omega
        clear hc
        go_enter Tryz.func180,Tryz.ntmps180
        go_wp2_with (first | (go_at_call 236;refine (HP.out _).mono ?_;rw [show Lib.hasPrefix (s.extract a s.size).data.toList (⟨#[60,45]⟩:ByteArray).data.toList=false from HH.out];rintro e w' ⟨rfl,rfl⟩) | (go_at_call 237;refine (HW.out _).mono ?_;rintro e w' ⟨rfl,rfl⟩))
        refine bodyPost_ret (v:=.agg #[.int .i64 0,.string (s.extract a (a+1)),.int .i64 (a+1)]) (by simp [results,Tryz.results180,go_sem]) rfl ⟨?_,?_⟩
        ·rw [E.out,HX.out];rfl
        ·exact ((Below.refl _ _).alloc (Nat.le_refl _) _).alloc (by simp) _
       ·clear hc
        go_enter Tryz.func180,Tryz.ntmps180
        go_wp2_with (first | (go_at_call 236;refine (HP.out _).mono ?_;rw [show Lib.hasPrefix (s.extract a s.size).data.toList (⟨#[60,45]⟩:ByteArray).data.toList=false from HH.out];rintro e w' ⟨rfl,rfl⟩) | (go_at_call 237;refine (HW.out _).mono ?_;rintro e w' ⟨rfl,rfl⟩))
        refine bodyPost_ret (v:=.agg #[.int .i64 0,.string (s.extract a (a+1)),.int .i64 (a+1)]) (by simp [results,Tryz.results180,go_sem]) rfl ⟨?_,?_⟩
        ·rw [E.out,HX.out];rfl
        ·exact ((Below.refl _ _).alloc (Nat.le_refl _) _).alloc (by simp) _
      ·have hc1:¬ 97≤(s[a].toNat:Int):=by omega
       clear hnb hc
       go_enter Tryz.func180,Tryz.ntmps180
       go_wp2_with (first | (go_at_call 236;refine (HP.out _).mono ?_;rw [show Lib.hasPrefix (s.extract a s.size).data.toList (⟨#[60,45]⟩:ByteArray).data.toList=false from HH.out];rintro e w' ⟨rfl,rfl⟩) | (go_at_call 237;refine (HW.out _).mono ?_;rintro e w' ⟨rfl,rfl⟩))
       refine bodyPost_ret (v:=.agg #[.int .i64 0,.string (s.extract a (a+1)),.int .i64 (a+1)]) (by simp [results,Tryz.results180,go_sem]) rfl ⟨?_,?_⟩
       ·rw [E.out,HX.out];rfl
       ·exact ((Below.refl _ _).alloc (Nat.le_refl _) _).alloc (by simp) _
end
section
open Go.RowKit Go.Shelf

theorem tok_info:(Tryz.prog.info? 164).map (fun i=>(i.zero,i.size,i.bytes))=some (some (.agg #[.int .i64 0,.string ByteArray.empty,.int .i64 0]),3,32):=by kernel_rfl

abbrev tokCells (kd:Int) (X:ByteArray) (co:Int):List Value:=[.int .i64 kd,.string X,.int .i64 co]
theorem tok_one (kd:Int) (X:ByteArray) (co:Int):∀ u∈tokCells kd X co,u.oneCell'=true:=by
 intro u hu;simp at hu;rcases hu with rfl | rfl | rfl <;> rfl

def TokPost (r:List Tok × Int × Int) (w:World) (e:Ending) (w':World):Prop :=
 ∃ v,e=.returned (.tuple #[v,.int .i64 r.2.1,.int .i64 r.2.2])∧w'.ownsRow w.heap.size 164 3 v r.1.length (r.1.flatMap Tok.cells)∧Below w.heap.size w w'

def TokRel (B:Nat) (w:World) (l:List UInt8) (v i:Value) (wr:World):Prop :=
 ∃ (k f:Nat) (acc:List Tok),k≤l.length∧i=.int .i64 k∧l.length - k≤f∧acc.length≤k∧wr.ownsRow B 164 3 v acc.length (acc.flatMap Tok.cells) ∧
  toks l.length l 0 []=toks f (l.drop k) k acc∧Below B w wr

set_option maxHeartbeats 1000000 in
theorem scan_Tokens (s:ByteArray) (w:World) (hs:s.size≤200) (hg:Gl w) :
  Calls Tryz.prog 124 #[.string s] w (TokPost (tokens (bl s)) w):=by
 have ht:tokens (bl s)=toks (bare (bl s)).length (bare (bl s)) 0 []:=by unfold tokens;rw [if_neg (by rw [bl_len];omega)]
 have HT:=Lib.hid ht
 have HB:=Lib.hid (scan_bare s w (by omega) hg)
 have hle:=bare_le (bl s)
 rw [bl_len] at hle
 generalize hr:(⟨(bare (bl s)).toArray⟩:ByteArray)=r at HB
 have hbr:bl r=bare (bl s):=by rw [← hr]
 have hrs:r.size≤200:=by rw [← bl_len,hbr];omega
 have HR:=Lib.hid hbr
 clear hr hbr hle ht hg
 have h200:decide (200 < (s.size:Int))=false:=by simp;omega
 go_enter Tryz.func124,Tryz.ntmps124
 go_wp2_with (go_at_call 179;refine HB.out.mono ?_;rintro e w' ⟨rfl,n,rfl⟩)
 go_loopw [2,6] (TokRel w.heap.size w (bl r)) (fun _ i _=>r.size - (intOf i).toNat)
 case atStart=>exact ⟨0,(bl r).length,[],by omega,rfl,by omega,by simp,World.ownsRow_nil _ _ _ _,rfl,below_of_drewN n⟩
 case round =>
  obtain ⟨k,f,acc,hk,rfl,hf,hacc,hown,htk,hb⟩:=hrel
  rw [bl_len] at hk hf
  have HK:=Lib.hid htk
  clear htk
  by_cases hlt:k < r.size
  ·obtain ⟨f,rfl⟩:∃ f',f=f'+1:=⟨f - 1,by omega⟩
   by_cases h32:r[k].toNat=32
   ·have b32:((r[k].toNat:Int) == 32)=true:=by rw [beq_iff_eq];omega
    have HN:=Lib.hid (HK.out.trans (toks_at_space r k f acc hlt h32))
    clear h32
    go_wp2
    exact ⟨⟨k+1,f,acc,by rw [bl_len];omega,by go_num,by rw [bl_len];omega,by omega,hown,HN.out,hb⟩,by simp [intOf];omega⟩
   ·have b32:((r[k].toNat:Int) == 32)=false:=by rw [beq_eq_false_iff_ne];omega
    have HO:=Lib.hid (fun W=>scan_one r k W (by omega) hlt)
    have hroom:=oneTok_room ((bl r).drop k) k
    rw [List.length_drop,bl_len] at hroom
    have hbad:=toks_at_bad r k f acc hlt h32
    have hlong:=toks_at_long r k f acc hlt h32
    have hgo:=toks_at_go r k f acc hlt h32
    generalize oneTok ((bl r).drop k) k=t at HO hroom hbad hlong hgo
    obtain ⟨kd,tx,co⟩:=t
    dsimp only at hroom hbad hlong hgo
    simp only [Tok.cells] at HO
    have hX:(⟨tx.toArray⟩:ByteArray).size=tx.length:=by simp [ByteArray.size]
    rw [← hX] at hroom hlong hgo
    generalize hXe:(⟨tx.toArray⟩:ByteArray)=X at HO hroom hlong hgo
    have HX:=Lib.hid hXe
    clear hXe h32 hX
    by_cases hkd:kd=0
    ·have bk:(kd == 0)=true:=by rw [beq_iff_eq];exact hkd
     have HN:=Lib.hid (HK.out.trans (hbad hkd))
     clear hbad hlong hgo hroom hkd
     go_wp2_with (go_at_call 180;refine (HO.out _).mono ?_;rintro e w1 ⟨rfl,hb1⟩)
     go_quiet (fail)
     go_wp2
     go_ret3
     rw [HT.out,← HR.out,HN.out]
     exact ⟨_,rfl,World.ownsRow_nil _ _ _ _,below_drewN ((hb.trans (hb1.mono hb.size)).alloc (Nat.le_trans hb.size hb1.size) _) _⟩
    ·have bk:(kd == 0)=false:=by rw [beq_eq_false_iff_ne];exact hkd
     obtain ⟨hr1,hr2⟩:=hroom hkd
     by_cases hl:8 < X.size
     ·have bl8:decide (8 < (X.size:Int))=true:=by simp;omega
      have HN:=Lib.hid (HK.out.trans (hlong hkd hl))
      clear hbad hlong hgo hroom hkd hl
      go_wp2_with (go_at_call 180;refine (HO.out _).mono ?_;rintro e w1 ⟨rfl,hb1⟩)
      go_quiet (fail)
      go_wp2
      go_ret3
      rw [HT.out,← HR.out,HN.out]
      exact ⟨_,rfl,World.ownsRow_nil _ _ _ _,below_drewN ((hb.trans (hb1.mono hb.size)).alloc (Nat.le_trans hb.size hb1.size) _) _⟩
     ·have bl8:decide (8 < (X.size:Int))=false:=by simp;omega
      have HN:=Lib.hid (HK.out.trans (hgo hkd hl))
      clear hbad hlong hgo hroom hkd
      go_wp2_with (first | (go_at_call 180;refine (HO.out _).mono ?_;rintro e w1 ⟨rfl,hb1⟩) | (at_builtin;refine app_own Tryz.underlying160 tok_info rfl (by decide) (by decide) rfl _ _ rfl w.heap.size rfl (((own_below hown hb1).alloc _).alloc _) (tokCells kd X co) rfl (heap_new2 _ _ _) rfl (tok_one _ _ _) ?_ ?_ ?_;omega;(have:=hb1.size;have:=hb.size;simp;omega);intro a' cap' w2 hown' hgrow;have hcx:=grown_cell hown (u:=.string X) (g:=w1.heap.size) (o:=1) hgrow hb1.size (by simp [go_sem])))
      have hsz:=hb1.size
      have hsz0:=hb.size
      refine ⟨⟨k+X.size,f,acc++[⟨kd,tx,co⟩],by rw [bl_len];omega,by go_num,by rw [bl_len];omega,by simp;omega,?_,HN.out,?_⟩,by simp [intOf];omega⟩
      ·rw [List.length_append,List.flatMap_append]
       simp only [List.flatMap_cons,List.flatMap_nil,List.append_nil,Tok.cells,HX.out]
       exact hown'
      ·exact (((hb.trans (hb1.mono hsz0)).alloc (by omega) _).alloc (by simp;omega) _).grown hgrow (by simp;omega) (fun g hg=>(hown.lt g hg).1)
  ·have HN:=Lib.hid (HK.out.trans (toks_at_end r k f acc hlt))
   go_wp2
   go_ret3
   rw [HT.out,← HR.out,HN.out]
   exact ⟨u2,rfl,hown,hb⟩
theorem tokens_long (s:ByteArray) (h:¬ s.size≤200):tokens (bl s)=([],201,4):=by unfold tokens;rw [if_pos (by rw [bl_len];omega)]
theorem scan_Tokens_any (s:ByteArray) (w:World) (hg:Gl w) (hs:s.size≤9223372036854775807):Calls Tryz.prog 124 #[.string s] w (TokPost (tokens (bl s)) w):=by
 by_cases h:s.size≤200
 ·exact scan_Tokens s w h hg
 ·have HT:=Lib.hid (tokens_long s h)
  have h200:decide (200 < (s.size:Int))=true:=by simp;omega
  clear h
  go_enter Tryz.func124,Tryz.ntmps124
  go_wp2
  go_ret3
  rw [HT.out]
  exact ⟨_,rfl,World.ownsRow_nil _ _ _ _,Below.refl _ _⟩
end
section
open Go.RowKit Go.Shelf

def Rd.fin (r:Rd) (s:St):St × Int × Int :=
 if r.why≠0 then (noS,r.p,r.why) else match r.l with | []=>(normalS s,0,0) | t :: _=>(noS,t.col,2)
theorem fin_bad {r:Rd} {s:St} (h:¬ r.why=0):r.fin s=(noS,r.p,r.why):=if_pos h
def Rd.stmt (r:Rd):St × Rd:=(r.role.2.take 4).2.body ⟨0,r.role.1,emp,noR,noR,emp⟩
def parseT (t:List Tok × Int × Int) (e:Int):St × Int × Int :=
 if t.2.2≠0 then (noS,t.2.1,t.2.2) else (Rd.mk t.1 e 0 0).stmt.2.fin (Rd.mk t.1 e 0 0).stmt.1
def endOf (s:ByteArray):Int:=((Lib.trimRightB (bare (bl s)) 32).length:Int)+1
def parseS (s:ByteArray):St × Int × Int:=parseT (tokens (bl s)) (endOf s)
theorem parseT_bad {t:List Tok × Int × Int} {e:Int} (h:t.2.2≠0):parseT t e=(noS,t.2.1,t.2.2):=if_pos h
theorem parseT_good {t:List Tok × Int × Int} {e:Int} (h:t.2.2=0):parseT t e=(Rd.mk t.1 e 0 0).stmt.2.fin (Rd.mk t.1 e 0 0).stmt.1:=if_neg (fun x=>x h)
theorem trimRight_le (l:List UInt8) (c:UInt8):(Lib.trimRightB l c).length≤l.length:=by
 rw [Lib.trimRightB,List.length_reverse]
 exact Nat.le_trans (List.dropWhile_sublist _).length_le (by simp)

theorem scan_cut (s:ByteArray) (w:World) (hs:s.size < 4294967281) (hg:Gl w) :
  Calls Tryz.prog 91 #[.string s,.string ⟨#[35]⟩] w fun e w' => ∃ (x:ByteArray) (b:Bool),e=.returned (.tuple #[.string ⟨(bare (bl s)).toArray⟩,.string x,.bool b])∧∃ n,w'=w.drewN n:=by
 obtain ⟨m,hm⟩:=hg
 have hcon:=Tryz.strings_Cut s ⟨#[35]⟩ m w hs hm
 rw [show (⟨#[35]⟩:ByteArray).data.toList=[35] from rfl,cut_bare] at hcon
 exact hcon.mono fun e w' ⟨h1,h2⟩=>⟨_,_,h1,h2⟩
set_option maxRecDepth 100000 in
set_option maxHeartbeats 2000000 in
theorem syn_Parse (s:ByteArray) (w:World) (hs:s.size < 4294967281) (hg:Gl w) :
  Calls Tryz.prog 106 #[.string s] w fun e w'=>e=.returned (.tuple #[sv (parseS s).1,.int .i64 (parseS s).2.1,.int .i64 (parseS s).2.2])∧Below w.heap.size w w':=by
 have HG:=Lib.hid hg
 have E:=Lib.hid (show parseS s=parseT (tokens (bl s)) (endOf s) from rfl)
 have EO:=Lib.hid (show endOf s=((Lib.trimRightB (bare (bl s)) 32).length:Int)+1 from rfl)
 have hcut:=fun (W:World) (h:Gl W)=>scan_cut s W hs h
 have HC:=Lib.hid hcut
 have HT:=Lib.hid (fun W=>Tryz.strings_TrimRight_one (⟨(bare (bl s)).toArray⟩) 32 (by decide) W (by simp [ByteArray.size];have:=bare_le (bl s);rw [bl_len] at this;omega))
 have hend:endOf s≤4294967282:=by have:=trimRight_le (bare (bl s)) 32;have:=bare_le (bl s);rw [bl_len] at this;unfold endOf;omega
 have hend0:0≤endOf s:=by unfold endOf;omega
 generalize hE:endOf s=en at *
 generalize hr:(⟨(Lib.trimRightB (bare (bl s)) 32).toArray⟩:ByteArray)=tr at HT
 have htr:(tr.size:Int)+1=en:=by rw [← hr,← hE];rfl
 clear hr EO hE
 generalize parseS s=res at E ⊢
 clear hg hcut
 go_enter Tryz.func106,Tryz.ntmps106
 go_wp2_with fail
 refine (scan_Tokens_any s _ (HG.out.below ((Below.refl _ _).alloc (Nat.le_refl _) _)) (by omega)).mono ?_
 rintro e w1 ⟨va,rfl,hown1,hb1⟩
 obtain ⟨sa,sc,rfl⟩:=own_form hown1
 have hsl1:=Lib.hid (Sl.of_own hown1)
 have hG1:=Lib.hid ((HG.out.below ((Below.refl _ _).alloc (Nat.le_refl _) _)).below hb1)
 have hres:=(keep1 hb1)
 clear hown1
 generalize tokens (bl s)=t at hsl1 E ⊢
 obtain ⟨l,i,y⟩:=t
 dsimp only at hsl1 E ⊢
 by_cases hy:y=0
 ·subst hy
  replace E:=Lib.hid (E.out.trans (parseT_good rfl))
  go_wp2_with fail
  refine (HC.out w1 hG1.out).mono ?_
  rintro e w' ⟨x,bb,rfl,n,rfl⟩
  go_wp2_with (go_at_call 155;refine (HT.out _).mono ?_;rintro e w' ⟨rfl,rfl⟩)
  have hr0:RdAt w1 ((w1.drewN n).alloc (.cells (rdCells (.slice sa l.length sc) ⟨l,en,0,0⟩) 188)) w1.heap.size ⟨l,en,0,0⟩ :=
   ⟨Nat.le_refl _,(below_of_drewN n).alloc (Nat.le_refl _) _,_,hsl1.out,Blk.new (w1.drewN n) _ _⟩
  cases h1:(Rd.mk l en 0 0).role with | mk x1 r1 =>
  obtain ⟨y1,y2⟩:=x1
  refine (role_pair h1 w1 _ _ hr0).mono ?_
  rintro e w2 ⟨rfl,hr1,hg1⟩
  go_wp2_with fail
  cases h2:r1.take 4 with | mk x2 r2 =>
  refine (take_pair h2 w1 _ _ (hr1.alloc _)).mono ?_
  rintro e w3 ⟨rfl,hr2,hg2⟩
  have hlt1:=hr1.lt
  have hB2:=(Blk.new w2 #[.int .i64 0,.string y1,.string y2,.string emp,.string emp,.string emp,.string emp,.string emp,.string emp] 80).grown hg2 (fun e=>by have:=Option.some.inj e;omega)
  go_wp2_with fail
  refine (read_body r2 ⟨0,⟨y1,y2⟩,emp,noR,noR,emp⟩ w1 w3 w1.heap.size w2.heap.size hr2 hB2 (by omega) (by omega)).mono ?_
  rintro e w4 ⟨rfl,hr3,hB3⟩
  have E3:(Rd.mk l en 0 0).stmt=r2.body ⟨0,⟨y1,y2⟩,emp,noR,noR,emp⟩:=by simp [Rd.stmt,h1,h2]
  rw [E3] at E
  clear E3 h1 h2 hr0 hr1 hr2 hg1 hg2 hB2
  generalize r2.body ⟨0,⟨y1,y2⟩,emp,noR,noR,emp⟩=z at hr3 hB3 E ⊢
  obtain ⟨⟨k3,⟨s1,s2⟩,who,⟨a1,a2⟩,⟨b1,b2⟩,via⟩,⟨l3,e3,p3,y3⟩⟩:=z
  dsimp only at hr3 hB3 E
  have hres4:=hres.below hr3.below
  simp only [St.cells] at hB3
  obtain ⟨ca,fa,za⟩:=id hres4
  obtain ⟨cb,fb,zb⟩:=id hB3
  have hbw4:Below w.heap.size w w4:=(((Below.refl _ _).alloc (Nat.le_refl _) _).trans (hb1.mono (by simp))).trans (hr3.below.mono (Nat.le_of_lt hres.2.2))
  have HBW:=Lib.hid hbw4
  clear hbw4
  have HR3:=Lib.hid hr3
  have HB3:=Lib.hid hB3
  have hzz:=hres.2.2
  obtain ⟨hlow,hbel,lv,hs3,hblk⟩:=hr3
  have HBE:=Lib.hid hbel
  have c0:=hblk.cell 0 lv rfl
  have c1:=hblk.cell 1 (.int .i64 e3) rfl
  have c2:=hblk.cell 2 (.int .i64 p3) rfl
  have c3:=hblk.cell 3 (.int .i64 y3) rfl
  have f0:=hblk.2.1
  have z0:=hblk.2.2
  by_cases hy3:y3=0
  ·subst hy3
   cases l3 with
   | nil =>
    obtain ⟨a,cap,rfl⟩:=hs3.form
    replace E:=Lib.hid (E.out.trans (show Rd.fin ⟨[],e3,p3,0⟩ _=(normalS _,0,0) from rfl))
    clear hb1 hres hres4 hB3 hbel hs3 hblk
    go_wp2_with (go_at_call 159;refine (syn_Normal ⟨k3,⟨s1,s2⟩,who,⟨a1,a2⟩,⟨b1,b2⟩,via⟩ _).mono ?_;rintro e w5 ⟨rfl,hb5⟩;have hres5:=Blk.below ⟨ca,fa,za⟩ hb5;generalize normalS ⟨k3,⟨s1,s2⟩,who,⟨a1,a2⟩,⟨b1,b2⟩,via⟩=nz at *;obtain ⟨nk,⟨nh1,nh2⟩,nwho,⟨na1,na2⟩,⟨nb1,nb2⟩,nvia⟩:=nz;obtain ⟨cc,fc,zc⟩:=id hres5)
    refine bodyPost_ret (v:=.tuple #[sv ⟨nk,⟨nh1,nh2⟩,nwho,⟨na1,na2⟩,⟨nb1,nb2⟩,nvia⟩,.int .i64 0,.int .i64 0]) (by simp [results,Tryz.results106,go_sem,cc]) rfl ⟨by rw [E.out],?_⟩
    have hb4:=HBW.out
    (repeat' (first | with_reducible exact Below.refl _ _ | with_reducible assumption | with_reducible (refine Below.setCell ?_ ?_ _) | with_reducible (refine Below.alloc ?_ ?_ _) | with_reducible (refine below_drew ?_) | with_reducible (refine below_drewN ?_ _) | with_reducible (refine Below.trans ?_ (Below.mono (by assumption) ?_)) | omega | (simp;done) | (simp;omega)))
   | cons t tl =>
    obtain ⟨b,off,cap,rfl,hc,hm,hlt,hx⟩:=hs3.pos (by simp)
    obtain ⟨t0,t1,t2⟩:=tk_head (Sl.cells_later hbel hlt hx)
    have d1:decide ((0:Int) < (tl.length:Int)+1)=true:=by (rw [decide_eq_true_iff];omega)
    have hbg:¬ b=w1.heap.size:=by omega
    clear hb1 hres hres4 hB3 hbel hs3 hblk hx
    go_wp2_with fail
    go_region
    go_wp2
    refine bodyPost_ret (v:=.tuple #[sv noS,.int .i64 t.col,.int .i64 2]) (by simp [results,Tryz.results106,go_sem,ca,noS,noR]) rfl ⟨by rw [E.out];rfl,?_⟩
    have hb4:=HBW.out
    (repeat' (first | with_reducible exact Below.refl _ _ | with_reducible assumption | with_reducible (refine Below.setCell ?_ ?_ _) | with_reducible (refine Below.alloc ?_ ?_ _) | with_reducible (refine below_drew ?_) | with_reducible (refine below_drewN ?_ _) | with_reducible (refine Below.trans ?_ (Below.mono (by assumption) ?_)) | omega | (simp;done) | (simp;omega)))
  ·have d:(y3 != 0)=true:=by simp [hy3]
   have d':(y3 == 0)=false:=by simp [hy3]
   replace hy3:=Lib.hid hy3
   clear hb1 hres hres4 hB3 hbel hs3 hblk
   go_wp2_with fail
   go_region
   go_wp2
   refine bodyPost_ret (v:=.tuple #[sv noS,.int .i64 p3,.int .i64 y3]) (by simp [results,Tryz.results106,go_sem,ca,noS,noR]) rfl ⟨by rw [E.out,fin_bad hy3.out],?_⟩
   have hb4:=HBW.out
   (repeat' (first | with_reducible exact Below.refl _ _ | with_reducible assumption | with_reducible (refine Below.setCell ?_ ?_ _) | with_reducible (refine Below.alloc ?_ ?_ _) | with_reducible (refine below_drew ?_) | with_reducible (refine below_drewN ?_ _) | with_reducible (refine Below.trans ?_ (Below.mono (by assumption) ?_)) | omega | (simp;done) | (simp;omega)))
 ·replace E:=Lib.hid (E.out.trans (parseT_bad hy))
  have d:(y != 0)=true:=by simp [hy]
  clear hy
  obtain ⟨ca,fa,za⟩:=id hres
  go_wp2
  refine bodyPost_ret (v:=.tuple #[sv noS,.int .i64 i,.int .i64 y]) (by simp [results,Tryz.results106,go_sem,ca,noS,noR]) rfl ⟨by rw [E.out],?_⟩
  have hb4:=(((Below.refl _ _).alloc (Nat.le_refl _) _).trans (hb1.mono (by simp)):Below w.heap.size w w1)
  (repeat' (first | with_reducible exact Below.refl _ _ | with_reducible assumption | with_reducible (refine Below.setCell ?_ ?_ _) | with_reducible (refine Below.alloc ?_ ?_ _) | with_reducible (refine below_drew ?_) | with_reducible (refine below_drewN ?_ _) | with_reducible (refine Below.trans ?_ (Below.mono (by assumption) ?_)) | omega | (simp;done) | (simp;omega)))
end
section
open Go.RowKit Go.Shelf

theorem ref2_big (c:Int) (w:World):Calls Tryz.prog 195 #[.int .u8 c] w fun e w'=>e=.returned (.bool (btw c 65 90))∧w=w':=by
 by_cases h:65≤c
 all_goals
  go_enter Tryz.func195,Tryz.ntmps195
  go_wp2
  go_ret
  exact ⟨ret_b (by simp [btw];omega),rfl⟩
theorem ref2_small (c:Int) (w:World):Calls Tryz.prog 196 #[.int .u8 c] w fun e w'=>e=.returned (.bool (btw c 97 122))∧w=w':=by
 by_cases h:97≤c
 all_goals
  go_enter Tryz.func196,Tryz.ntmps196
  go_wp2
  go_ret
  exact ⟨ret_b (by simp [btw];omega),rfl⟩
theorem ref2_figure (c:Int) (w:World):Calls Tryz.prog 197 #[.int .u8 c] w fun e w'=>e=.returned (.bool (btw c 48 57))∧w=w':=by
 by_cases h:48≤c
 all_goals
  go_enter Tryz.func197,Tryz.ntmps197
  go_wp2
  go_ret
  exact ⟨ret_b (by simp [btw];omega),rfl⟩

theorem bare_stop (s:ByteArray) (k:Nat) (h:∀ c∈(bl s).take k,(!(c == 35))=true) (hk:k≤s.size) (hc:∀ c,(bl s)[k]? = some c→(!(c == 35))=false):bare (bl s)=(bl s).take k:=by
 have:=(takeWhile_count (fun c => !(c == 35)) (bl s) k).2 ⟨h,by rw [bl_len];exact hk,hc⟩
 unfold bare
 rw [takeWhile_take,this]

set_option maxHeartbeats 400000 in
theorem ref2_Bare (s:ByteArray) (w:World) (hs:s.size≤9223372036854775807) :
  Calls Tryz.prog 194 #[.string s] w fun e w'=>e=.returned (.string ⟨(bare (bl s)).toArray⟩)∧w=w':=by
 go_enter Tryz.func194,Tryz.ntmps194
 go_wp2
 go_loop [3] (fun i => ∃ k:Nat,k≤s.size∧i=.int .i64 k∧∀ c∈(bl s).take k,(!(c == 35))=true) (fun i=>s.size - (intOf i).toNat)
 case atStart=>exact ⟨0,by omega,rfl,by simp⟩
 case round =>
  obtain ⟨k,hk,rfl,hal⟩:=hrel
  have HA:=Lib.hid hal
  clear hal
  by_cases hlt:k < s.size
  ·have hat:=bl_at s 0 k (by omega)
   simp only [List.drop_zero,Nat.zero_add] at hat
   by_cases h35:s[k].toNat=35
   ·have b35:((s[k].toNat:Int) == 35)=true:=by rw [beq_iff_eq];omega
    have e35:s[k]=35:=UInt8.toNat_inj.1 h35
    have hbs:=bare_stop s k HA.out hk (fun c h=>by rw [hat] at h;cases h;rw [e35];rfl)
    have hx:bl (s.extract 0 k)=bare (bl s):=by rw [bl_extract,hbs];simp
    have HX:=Lib.hid (str_eq hx)
    clear hat h35 e35 hbs hx
    go_wp2
    go_ret
    exact ⟨ret_s HX.out,rfl⟩
   ·have b35:((s[k].toNat:Int) == 35)=false:=by rw [beq_eq_false_iff_ne];omega
    have hn:(!(s[k] == 35))=true:=by
     have:s[k]≠35:=fun e=>h35 (by rw [e];rfl)
     simpa using this
    have HM:=Lib.hid (show ∀ c∈(bl s).take (k+1),(!(c == 35))=true from by
     intro x hx
     rw [bl_take s k hlt] at hx
     rcases List.mem_append.1 hx with hx | hx
     ·exact HA.out x hx
     ·rw [List.mem_singleton.1 hx];exact hn)
    clear hat h35 hn
    go_wp2
    exact ⟨⟨k+1,by omega,by go_num,HM.out⟩,by simp [intOf];omega⟩
  ·have hbs:=bare_stop s k HA.out hk (fun c h=>by rw [List.getElem?_eq_none (by rw [bl_len];omega)] at h;cases h)
   rw [List.take_of_length_le (by rw [bl_len];omega)] at hbs
   have HX:=Lib.hid (str_eq hbs.symm)
   clear hbs
   go_wp2
   go_ret
   exact ⟨ret_s HX.out,rfl⟩
end
section
open Go.RowKit Go.Shelf

def fitsS:List Tok→List Int→Nat
 | t :: l,k :: s=>if t.kind=k then fitsS l s+1 else 0
 | _,_=>0
def sh1:List Int:=[1,3,2,4,1]
def sh2:List Int:=[1,3,2,4,1,3,2]
def sh3:List Int:=[1,3,2,4,1,3,2,3,2]
def sh4:List Int:=[1,3,2,4,1,3,2,5,1,3,2]
theorem fits_end (l:List Tok):fitsS l []=0:=by cases l <;> rfl
theorem fits_none (s:List Int):fitsS [] s=0:=by cases s <;> rfl
theorem fits_cons (t:Tok) (l:List Tok) (k:Int) (s:List Int):fitsS (t :: l) (k :: s)=if t.kind=k then fitsS l s+1 else 0:=rfl
def intsP (s:List Int):List Value:=s.map (Value.int IntKind.i64)

theorem drop_at {α:Type} (l:List α) (k:Nat) (h:k < l.length):l.drop k=l[k] :: l.drop (k+1):=List.drop_eq_getElem_cons h
theorem fits_stop1 (l:List Tok) (s:List Int) (k:Nat) (h:¬ k < l.length):fitsS (l.drop k) (s.drop k)=0:=by rw [List.drop_eq_nil_of_le (by omega)];exact fits_none _
theorem fits_stop2 (l:List Tok) (s:List Int) (k:Nat) (h:¬ k < s.length):fitsS (l.drop k) (s.drop k)=0:=by
 have h2:s.drop k=[]:=List.drop_eq_nil_of_le (by omega)
 rw [h2];exact fits_end _
theorem fits_no (l:List Tok) (s:List Int) (k:Nat) (h:k < l.length) (h':k < s.length) (hk:¬ l[k].kind=s[k]):fitsS (l.drop k) (s.drop k)=0:=by
 rw [drop_at l k h,drop_at s k h',fits_cons,if_neg hk]
theorem fits_go (l:List Tok) (s:List Int) (k:Nat) (h:k < l.length) (h':k < s.length) (hk:l[k].kind=s[k]):fitsS (l.drop k) (s.drop k)=fitsS (l.drop (k+1)) (s.drop (k+1))+1:=by
 rw [drop_at l k h,drop_at s k h',fits_cons,if_pos hk]
theorem ints_cell {w:World} {b off:Nat} {s:List Int} (h:∀ j u,(intsP s)[j]? = some u→w.cell? ⟨b,off+j,none⟩=some u) (k:Nat) (hk:k < s.length) :
  w.cell? ⟨b,off+k,none⟩=some (.int .i64 s[k]):=h k _ (by simp [intsP,hk])
theorem tok_kind {w:World} {b off:Nat} {l:List Tok} (h:∀ j u,(l.flatMap Tok.cells)[j]? = some u→w.cell? ⟨b,off+j,none⟩=some u) (k:Nat) (hk:k < l.length) :
  w.cell? ⟨b,off+k * 3,none⟩=some (.int .i64 l[k].kind)∧w.cell? ⟨b,off+k * 3+1,none⟩=some (.string ⟨l[k].text.toArray⟩)∧w.cell? ⟨b,off+k * 3+2,none⟩=some (.int .i64 l[k].col):=by
 have hx:l[k]? = some l[k]:=List.getElem?_eq_getElem hk
 have h0:=h _ _ ((flat_get Tok.cells 3 Tok.cells_len l k 0 (by omega) _ hx).trans rfl)
 have h1:=h _ _ ((flat_get Tok.cells 3 Tok.cells_len l k 1 (by omega) _ hx).trans rfl)
 have h2:=h _ _ ((flat_get Tok.cells 3 Tok.cells_len l k 2 (by omega) _ hx).trans rfl)
 exact ⟨h0,h1,h2⟩

set_option maxRecDepth 100000 in
set_option maxHeartbeats 1000000 in
theorem ref3_fits (va vb:Value) (l:List Tok) (s:List Int) (w:World) (ha:Sl w 3 va l.length (l.flatMap Tok.cells)) (hb:Sl w 1 vb s.length (intsP s)) (hs:0 < s.length) :
  Calls Tryz.prog 201 #[va,vb] w fun e w'=>e=.returned (.int .i64 (fitsS l s))∧∃ n,w'=w.drewN n:=by
 have hmax:=ha.max
 have hmax2:=hb.max
 obtain ⟨b2,o2,c2,rfl,hc2,hm2,_,hx2⟩:=hb.pos hs
 have HX2:=Lib.hid hx2
 by_cases h0:0 < l.length
 ·obtain ⟨b1,o1,c1,rfl,hc1,hm1,_,hx1⟩:=ha.pos h0
  have HX1:=Lib.hid hx1
  clear ha hb hx1 hx2
  go_enter Tryz.func201,Tryz.ntmps201
  go_wp2
  go_loopw [5] (fun i wr => ∃ k n:Nat,k≤l.length∧k≤s.length∧i=.int .i64 k∧wr=w.drewN n∧Hid (fitsS l s=k+fitsS (l.drop k) (s.drop k))) (fun i _=>l.length - (intOf i).toNat)
  case atStart=>exact ⟨0,0,by omega,by omega,rfl,rfl,Lib.hid (by simp)⟩
  case round =>
   obtain ⟨k,n,hk,hk2,rfl,rfl,HF⟩:=hrel
   by_cases hlt:k < l.length
   ·have d1:decide ((k:Int) < (l.length:Int))=true:=by (rw [decide_eq_true_iff];omega)
    by_cases hlt2:k < s.length
    ·have d2:decide ((k:Int) < (s.length:Int))=true:=by (rw [decide_eq_true_iff];omega)
     obtain ⟨p0,p1,p2⟩:=tok_kind HX1.out k hlt
     have q0:=ints_cell HX2.out k hlt2
     by_cases he:l[k].kind=s[k]
     ·have HN:=Lib.hid (HF.out.trans (by rw [fits_go l s k hlt hlt2 he];omega):fitsS l s=(k+1:Nat)+fitsS (l.drop (k+1)) (s.drop (k+1)))
      have d3:(l[k].kind == s[k])=true:=by simp [he]
      clear he
      go_wp2_with fail
      go_quiet (fail)
      go_wp2
      exact ⟨⟨k+1,n+nq,by omega,by omega,by go_num,rfl,HN⟩,by simp [intOf];omega⟩
     ·have HN:=Lib.hid (HF.out.trans (by rw [fits_no l s k hlt hlt2 he];omega):fitsS l s=k)
      have d3:(l[k].kind == s[k])=false:=by simp [he]
      clear he
      go_wp2_with fail
      go_quiet (fail)
      go_wp2
      go_ret
      exact ⟨by rw [HN.out];rfl,n+nq,by simp [World.drewN,Nat.add_assoc]⟩
    ·have d2:decide ((k:Int) < (s.length:Int))=false:=by (rw [decide_eq_false_iff_not];omega)
     have HN:=Lib.hid (HF.out.trans (by rw [fits_stop2 l s k hlt2];omega):fitsS l s=k)
     go_wp2_with fail
     go_quiet (fail)
     go_wp2
     go_ret
     exact ⟨by rw [HN.out];rfl,n+nq,by simp [World.drewN,Nat.add_assoc]⟩
   ·have d1:decide ((k:Int) < (l.length:Int))=false:=by (rw [decide_eq_false_iff_not];omega)
    have HN:=Lib.hid (HF.out.trans (by rw [fits_stop1 l s k hlt];omega):fitsS l s=k)
    go_wp2_with fail
    go_quiet (fail)
    go_wp2
    go_ret
    exact ⟨by rw [HN.out];rfl,n+nq,by simp [World.drewN,Nat.add_assoc]⟩
 ·obtain ⟨a1,c1,rfl⟩:=ha.form
  obtain rfl:l=[]:=List.eq_nil_of_length_eq_zero (by omega)
  clear ha hb h0 hmax hx2
  have HN:=Lib.hid (fits_none s)
  go_enter Tryz.func201,Tryz.ntmps201
  go_wp2
  go_loopw [5] (fun i wr=>i=.int .i64 0∧wr=w) (fun _ _=>0)
  case atStart=>exact ⟨rfl,rfl⟩
  case round =>
   obtain ⟨rfl,rfl⟩:=hrel
   go_wp2_with fail
   go_quiet (fail)
   go_wp2
   go_ret
   exact ⟨by rw [HN.out];rfl,nq,rfl⟩

theorem Sl.new1 (w:World) (cs:List Value) (t:TypeId) (g n:Nat) (hg:g=w.heap.size) (hl:cs.length=n) (hm:n≤maxLen) :
  Sl (w.alloc (.cells cs.toArray t)) 1 (.slice (some ⟨g,0,none⟩) n n) n cs:=by
 subst hg
 refine ⟨by omega,hm,.inr ⟨w.heap.size,0,n,rfl,Nat.le_refl _,hm,by simp,fun j u hu=>?_⟩⟩
 rw [(Blk.new w cs.toArray t).1]
 simpa using hu
set_option maxRecDepth 100000 in
set_option maxHeartbeats 1000000 in
theorem ref3_shapes (w:World) :
  Calls Tryz.prog 200 #[] w fun e w' => ∃ v r1 r2 r3 r4,e=.returned v∧Sl w' 1 v 4 [r1,r2,r3,r4]∧Sl w' 1 r1 5 (intsP sh1)∧Sl w' 1 r2 7 (intsP sh2)∧Sl w' 1 r3 9 (intsP sh3)∧Sl w' 1 r4 11 (intsP sh4)∧Below w.heap.size w w':=by
 go_enter Tryz.func200,Tryz.ntmps200
 go_wp2
 go_ret
 let W1:=w.alloc (.cells (intsP sh1).toArray 3)
 let W2:=W1.alloc (.cells (intsP sh2).toArray 3)
 let W3:=W2.alloc (.cells (intsP sh3).toArray 3)
 let W4:=W3.alloc (.cells (intsP sh4).toArray 3)
 have b1:Below W1.heap.size W1 W2:=(Below.refl _ _).alloc (Nat.le_refl _) _
 have b2:Below W2.heap.size W2 W3:=(Below.refl _ _).alloc (Nat.le_refl _) _
 have b3:Below W3.heap.size W3 W4:=(Below.refl _ _).alloc (Nat.le_refl _) _
 have b0:Below w.heap.size w W1:=(Below.refl _ _).alloc (Nat.le_refl _) _
 have s1:Sl W1 1 (.slice (some ⟨w.heap.size,0,none⟩) 5 5) 5 (intsP sh1):=Sl.new1 _ _ _ _ _ rfl rfl (by simp [maxLen])
 have s2:Sl W2 1 (.slice (some ⟨w.heap.size+1,0,none⟩) 7 7) 7 (intsP sh2):=Sl.new1 _ _ _ _ _ (by simp [W1]) rfl (by simp [maxLen])
 have s3:Sl W3 1 (.slice (some ⟨w.heap.size+1+1,0,none⟩) 9 9) 9 (intsP sh3):=Sl.new1 _ _ _ _ _ (by simp [W1,W2]) rfl (by simp [maxLen])
 have s4:Sl W4 1 (.slice (some ⟨w.heap.size+1+1+1,0,none⟩) 11 11) 11 (intsP sh4):=Sl.new1 _ _ _ _ _ (by simp [W1,W2,W3]) rfl (by simp [maxLen])
 have t1:=((s1.below b1).below b2).below b3
 have t2:=(s2.below b2).below b3
 have t3:=s3.below b3
 have b4:∀ o,Below W4.heap.size W4 (W4.alloc o):=fun o=>(Below.refl _ _).alloc (Nat.le_refl _) o
 have bb:Below w.heap.size w W4:=((b0.trans (b1.mono b0.size)).trans (b2.mono (Nat.le_trans b0.size b1.size))).trans (b3.mono (Nat.le_trans b0.size (Nat.le_trans b1.size b2.size)))
 exact ⟨_,_,_,_,_,rfl,Sl.new1 W4 _ _ _ _ (by simp [W1,W2,W3,W4]) rfl (by simp [maxLen]),t1.below (b4 _),t2.below (b4 _),t3.below (b4 _),s4.below (b4 _),bb.alloc bb.size _⟩

theorem trimRight_step (l:List UInt8) (c:UInt8) (k:Nat) (h:0 < k) (hk:k≤l.length) (hc:l[k - 1]? = some c):Lib.trimRightB (l.take k) c=Lib.trimRightB (l.take (k - 1)) c:=by
 obtain ⟨k,rfl⟩:∃ j,k=j+1:=⟨k - 1,by omega⟩
 simp only [Nat.add_sub_cancel] at hc ⊢
 have hlt:k < l.length:=by omega
 have he:l[k]=c:=by rw [List.getElem?_eq_getElem hlt] at hc;exact Option.some.inj hc
 unfold Lib.trimRightB
 rw [List.take_succ_eq_append_getElem hlt,List.reverse_append,he]
 simp
theorem trimRight_stop (l:List UInt8) (c:UInt8) (k:Nat) (h:0 < k) (hk:k≤l.length) (hc:∀ x,l[k - 1]? = some x→¬ x=c):Lib.trimRightB (l.take k) c=l.take k:=by
 obtain ⟨k,rfl⟩:∃ j,k=j+1:=⟨k - 1,by omega⟩
 simp only [Nat.add_sub_cancel] at hc
 have hlt:k < l.length:=by omega
 have he:¬ l[k]=c:=hc _ (List.getElem?_eq_getElem hlt)
 unfold Lib.trimRightB
 rw [List.take_succ_eq_append_getElem hlt,List.reverse_append]
 simp [he]
def strLen:Value→Nat
 | .string s=>s.size
 | _=>0
theorem trim_go (t:ByteArray) (j:Nat) (hj:t.size=j+1) (h:t[j].toNat=32):Lib.trimRightB (bl (t.extract 0 j)) 32=Lib.trimRightB (bl t) 32:=by
 have hx:bl (t.extract 0 j)=(bl t).take j:=by rw [bl_extract];simp
 have hat:=bl_at t 0 j (by omega)
 simp only [List.drop_zero,Nat.zero_add] at hat
 have e:t[j]=32:=UInt8.toNat_inj.1 h
 have:=trimRight_step (bl t) 32 (j+1) (by omega) (by rw [bl_len];omega) (by simpa [e] using hat)
 rw [List.take_of_length_le (by rw [bl_len];omega)] at this
 rw [hx,this];simp
theorem trim_stop (t:ByteArray) (j:Nat) (hj:t.size=j+1) (h:¬ t[j].toNat=32):Lib.trimRightB (bl t) 32=bl t:=by
 have hat:=bl_at t 0 j (by omega)
 simp only [List.drop_zero,Nat.zero_add] at hat
 have:=trimRight_stop (bl t) 32 (j+1) (by omega) (by rw [bl_len];omega) (by
  intro x hx e
  simp only [Nat.add_sub_cancel] at hx
  rw [hat] at hx
  cases hx
  exact h (by rw [e];rfl))
 rwa [List.take_of_length_le (by rw [bl_len];omega)] at this
theorem trim_zero (t:ByteArray) (h:t.size=0):Lib.trimRightB (bl t) 32=bl t:=by
 have:bl t=[]:=List.eq_nil_of_length_eq_zero (by rw [bl_len];exact h)
 rw [this];rfl
def endOf' (s:ByteArray):Int:=((Lib.trimRightB (bare (bl s)) 32).length:Int)+1
set_option maxRecDepth 100000 in
set_option maxHeartbeats 1000000 in
theorem ref3_End (s:ByteArray) (w:World) (hs:s.size≤9223372036854775806) :
  Calls Tryz.prog 132 #[.string s] w fun e w'=>e=.returned (.int .i64 (endOf' s))∧w=w':=by
 have HB:=Lib.hid (ref2_Bare s w (by omega))
 have hle:=bare_le (bl s)
 rw [bl_len] at hle
 have hsz:(⟨(bare (bl s)).toArray⟩:ByteArray).size≤9223372036854775806:=by simp [ByteArray.size];omega
 have HE:=Lib.hid (show endOf' s=((Lib.trimRightB (bl (⟨(bare (bl s)).toArray⟩:ByteArray)) 32).length:Int)+1 from rfl)
 generalize (⟨(bare (bl s)).toArray⟩:ByteArray)=r at HB HE hsz
 clear hle
 go_enter Tryz.func132,Tryz.ntmps132
 go_wp2_with (go_at_call 194;refine HB.out.mono ?_;rintro e w' ⟨rfl,rfl⟩)
 go_loop [3] (fun i => ∃ t:ByteArray,t.size≤9223372036854775806∧i=.string t∧Hid (Lib.trimRightB (bl r) 32=Lib.trimRightB (bl t) 32)) (fun i=>strLen i)
 case atStart=>exact ⟨r,hsz,rfl,Lib.hid rfl⟩
 case round =>
  obtain ⟨t,ht,rfl,HT⟩:=hrel
  by_cases h0:t.size=0
  ·have HX:=Lib.hid (HT.out.trans (trim_zero t h0))
   have e2:=Lib.hid (show endOf' s=1 by rw [HE.out,HX.out,bl_len,h0];rfl)
   have d:decide ((0:Int) < (t.size:Int))=false:=by simp [h0]
   go_wp2
   go_ret
   refine ⟨?_,rfl⟩
   rw [e2.out]
   rfl
  ·obtain ⟨j,hj⟩:∃ j,t.size=j+1:=⟨t.size - 1,by omega⟩
   have hjlt:j < t.size:=by omega
   clear h0
   by_cases h32:t[j].toNat=32
   ·have HX:=Lib.hid (HT.out.trans (trim_go t j hj h32).symm)
    have b32:((t[j].toNat:Int) == 32)=true:=by rw [beq_iff_eq];omega
    clear h32
    go_wp2
    exact ⟨⟨t.extract 0 j,by simp;omega,by simp,HX.out⟩,by simp [strLen];omega⟩
   ·have HX:=Lib.hid (HT.out.trans (trim_stop t j hj h32))
    have b32:((t[j].toNat:Int) == 32)=false:=by rw [beq_eq_false_iff_ne];omega
    clear h32
    have hsz2:=Lib.hid hj
    go_wp2
    go_ret
    refine ⟨?_,rfl⟩
    have e2:endOf' s=(j:Int)+1+1:=by rw [HE.out,HX.out,bl_len,hsz2.out];rfl
    rw [e2]
    rfl
end
section

def tx (l:List Tok) (i:Nat):ByteArray:=⟨(l.getD i ⟨0,[],0⟩).text.toArray⟩
def best (l:List Tok):Nat:=max (max (max (fitsS l sh1) (fitsS l sh2)) (fitsS l sh3)) (fitsS l sh4)
def refEnd (l:List Tok) (e:Int):St × Int × Int:=if best l=l.length then (noS,e,3) else (noS,(l.getD (best l) ⟨0,[],0⟩).col,2)
def refS (l:List Tok) (e:Int):St × Int × Int :=
 if fitsS l sh1=l.length∧fitsS l sh1=5 then (⟨1,⟨tx l 0,tx l 2⟩,tx l 4,noR,noR,emp⟩,0,0)
 else if fitsS l sh2=l.length∧fitsS l sh2=7 then (⟨2,⟨tx l 0,tx l 2⟩,emp,⟨tx l 4,tx l 6⟩,noR,emp⟩,0,0)
 else if fitsS l sh3=l.length∧fitsS l sh3=9 then (⟨3,⟨tx l 0,tx l 2⟩,emp,⟨tx l 4,tx l 6⟩,noR,tx l 8⟩,0,0)
 else if fitsS l sh4=l.length∧fitsS l sh4=11 then (normalS ⟨4,⟨tx l 0,tx l 2⟩,emp,⟨tx l 4,tx l 6⟩,⟨tx l 8,tx l 10⟩,emp⟩,0,0)
 else refEnd l e
def readS (l:List Tok) (e:Int):St × Int × Int:=(Rd.mk l e 0 0).stmt.2.fin (Rd.mk l e 0 0).stmt.1
theorem why_take (l:List Tok) (e p y k:Int) (h:y≠0):(Rd.mk l e p y).take k=(emp,⟨l,e,p,y⟩):=take_why _ _ h
theorem why_is (l:List Tok) (e p y k:Int) (h:y≠0):(Rd.mk l e p y).is k=false:=is_why _ _ h
theorem fin_why (l:List Tok) (e p y:Int) (s:St) (h:y≠0):(Rd.mk l e p y).fin s=(noS,p,y):=fin_bad h
theorem fin_nil (e p:Int) (s:St):(Rd.mk [] e p 0).fin s=(normalS s,0,0):=rfl
theorem fin_cons (t:Tok) (l:List Tok) (e p:Int) (s:St):(Rd.mk (t :: l) e p 0).fin s=(noS,t.col,2):=rfl
theorem stmt_def (r:Rd):r.stmt=(r.role.2.take 4).2.body ⟨0,r.role.1,emp,noR,noR,emp⟩:=rfl
theorem role_def (r:Rd):r.role=(⟨(r.take 1).1,(((r.take 1).2.take 3).2.take 2).1⟩,(((r.take 1).2.take 3).2.take 2).2):=rfl
theorem normal1 (h:Rl) (w:ByteArray) (a b:Rl) (v:ByteArray):normalS ⟨1,h,w,a,b,v⟩=⟨1,h,w,a,b,v⟩:=normal_no _ _ _ _ _ _ (by decide)
theorem normal2 (h:Rl) (w:ByteArray) (a b:Rl) (v:ByteArray):normalS ⟨2,h,w,a,b,v⟩=⟨2,h,w,a,b,v⟩:=normal_no _ _ _ _ _ _ (by decide)
theorem normal3 (h:Rl) (w:ByteArray) (a b:Rl) (v:ByteArray):normalS ⟨3,h,w,a,b,v⟩=⟨3,h,w,a,b,v⟩:=normal_no _ _ _ _ _ _ (by decide)
set_option maxHeartbeats 8000000 in
set_option maxRecDepth 100000 in
theorem law_parse (l:List Tok) (e:Int):readS l e=refS l e:=by
 unfold readS
 rcases l with _ | ⟨t0,l⟩
 rotate_left
 by_cases h0:t0.kind=1
 rcases l with _ | ⟨t1,l⟩
 rotate_left
 by_cases h1:t1.kind=3
 rcases l with _ | ⟨t2,l⟩
 rotate_left
 by_cases h2:t2.kind=2
 rcases l with _ | ⟨t3,l⟩
 rotate_left
 by_cases h3:t3.kind=4
 rcases l with _ | ⟨t4,l⟩
 rotate_left
 by_cases h4:t4.kind=1
 rcases l with _ | ⟨t5,l⟩
 rotate_left
 by_cases h5:t5.kind=3
 rcases l with _ | ⟨t6,l⟩
 rotate_left
 by_cases h6:t6.kind=2
 rcases l with _ | ⟨t7,l⟩
 rotate_left
 by_cases h7:t7.kind=3
 rcases l with _ | ⟨t8,l⟩
 rotate_left
 by_cases h8:t8.kind=2
 rcases l with _ | ⟨t9,l⟩
 rotate_left 3
 by_cases h7':t7.kind=5
 rcases l with _ | ⟨t8,l⟩
 rotate_left
 by_cases h8:t8.kind=1
 rcases l with _ | ⟨t9,l⟩
 rotate_left
 by_cases h9:t9.kind=3
 rcases l with _ | ⟨t10,l⟩
 rotate_left
 by_cases h10:t10.kind=2
 rcases l with _ | ⟨t11,l⟩
 all_goals simp [stmt_def,role_def,take_no,take_yes,take_nil,why_take,why_is,is_nil,is_cons,Rd.body,fin_why,fin_nil,fin_cons,normal1,normal2,normal3,refS,refEnd,best,fits_end,fits_none,fits_cons,sh1,sh2,sh3,sh4,tx, *]
end
section
open Go.RowKit Go.Shelf

def orL:List Int→Int
 | []=>0
 | x :: r=>if x=0 then orL r else x
theorem orL_yes {x:Int} {r:List Int} (h:x=0):orL (x :: r)=orL r:=if_pos h
theorem orL_no {x:Int} {r:List Int} (h:¬ x=0):orL (x :: r)=x:=if_neg h
def cmpI (x y:Int):Int:=if x < y then -1 else if y < x then 1 else 0
def cmpSt (s t:St):Int:=orL [cmpR s.h t.h,cmpI s.k t.k,cmpS s.who t.who,cmpR s.a t.a,cmpR s.b t.b,cmpS s.via t.via]

theorem orL_at {l:List Int} {k:Nat} (h:k < l.length):l.drop k=l[k] :: l.drop (k+1):=List.drop_eq_getElem_cons h
theorem orL_end {l:List Int} {k:Nat} (h:¬ k < l.length):orL (l.drop k)=0:=by
 rw [List.drop_eq_nil_of_le (by omega)];rfl
set_option maxRecDepth 100000 in
set_option maxHeartbeats 1000000 in
theorem cmp_OrL (b n:Nat) (l:List Int) (w:World) (hn:n=l.length) (hm:n≤1000) (h:∀ i (hi:i < l.length),w.cell? ⟨b,i,none⟩=some (.int .i64 l[i])) :
  Calls Tryz.prog 160 #[.slice (some ⟨b,0,none⟩) n n] w fun e w'=>e=.returned (.int .i64 (orL l))∧w=w':=by
 have HH:=Lib.hid h
 have HN:=Lib.hid hn
 clear h hn
 go_enter Tryz.func160,Tryz.ntmps160
 go_wp2
 go_loop [8] (fun i => ∃ k:Nat,k≤n∧i=.int .i64 k∧Hid (orL l=orL (l.drop k))) (fun i=>n - (intOf i).toNat)
 case atStart=>exact ⟨0,by omega,rfl,Lib.hid (by simp)⟩
 case round =>
  obtain ⟨k,hk,rfl,HX⟩:=hrel
  by_cases hlt:k < n
  ·have hl:k < l.length:=by have:=HN.out;omega
   have p:=HH.out k hl
   have HD:=Lib.hid (HX.out.trans (congrArg orL (orL_at hl)))
   have d:decide ((k:Int) < (n:Int))=true:=by (rw [decide_eq_true_iff];omega)
   by_cases hz:l[k]=0
   ·have b1:(l[k] != 0)=false:=by simp [hz]
    have HE:=Lib.hid (HD.out.trans (orL_yes hz))
    clear hz
    go_wp2
    exact ⟨⟨k+1,by omega,by go_num,HE⟩,by simp [intOf];omega⟩
   ·have b1:(l[k] != 0)=true:=by simp [hz]
    have HE:=Lib.hid (HD.out.trans (orL_no hz))
    clear hz
    go_wp2
    go_ret
    exact ⟨ret_int HE.out.symm,rfl⟩
  ·have d:decide ((k:Int) < (n:Int))=false:=by (rw [decide_eq_false_iff_not];omega)
   have HE:=Lib.hid (HX.out.trans (orL_end (by have:=HN.out;omega)))
   go_wp2
   go_ret
   exact ⟨ret_int HE.out.symm,rfl⟩

theorem cmp_nan (x:Int) (w:World):Calls Tryz.prog 225 #[.int .i64 x] w fun e w'=>e=.returned (.bool false)∧w=w':=by
 have d:(x != x)=false:=by simp
 go_enter Tryz.func225,Tryz.ntmps225
 go_wp2
 go_ret
 exact ⟨rfl,rfl⟩
theorem cmpI_lt {x y:Int} (h:x < y):cmpI x y = -1:=if_pos h
theorem cmpI_gt {x y:Int} (h:¬ x < y) (h':y < x):cmpI x y=1:=by unfold cmpI;rw [if_neg h,if_pos h']
theorem cmpI_eq {x y:Int} (h:¬ x < y) (h':¬ y < x):cmpI x y=0:=by unfold cmpI;rw [if_neg h,if_neg h']
set_option maxHeartbeats 1000000 in
theorem cmp_Int (x y:Int) (w:World):Calls Tryz.prog 162 #[.int .i64 x,.int .i64 y] w fun e w'=>e=.returned (.int .i64 (cmpI x y))∧w=w':=by
 have H:=Lib.hid (fun z W=>cmp_nan z W)
 by_cases h1:x < y
 ·have E:=Lib.hid (cmpI_lt h1)
  have d1:decide (x < y)=true:=decide_eq_true h1
  clear h1
  go_enter Tryz.func162,Tryz.ntmps162
  go_wp2_with (go_at_call 225;refine (H.out _ _).mono ?_;rintro e w' ⟨rfl,rfl⟩)
  go_ret
  exact ⟨ret_int E.out.symm,rfl⟩
 ·by_cases h2:y < x
  ·have E:=Lib.hid (cmpI_gt h1 h2)
   have d1:decide (x < y)=false:=decide_eq_false h1
   have d2:decide (y < x)=true:=decide_eq_true h2
   clear h1 h2
   go_enter Tryz.func162,Tryz.ntmps162
   go_wp2_with (go_at_call 225;refine (H.out _ _).mono ?_;rintro e w' ⟨rfl,rfl⟩)
   go_ret
   exact ⟨ret_int E.out.symm,rfl⟩
  ·have E:=Lib.hid (cmpI_eq h1 h2)
   have d1:decide (x < y)=false:=decide_eq_false h1
   have d2:decide (y < x)=false:=decide_eq_false h2
   clear h1 h2
   go_enter Tryz.func162,Tryz.ntmps162
   go_wp2_with (go_at_call 225;refine (H.out _ _).mono ?_;rintro e w' ⟨rfl,rfl⟩)
   go_ret
   exact ⟨ret_int E.out.symm,rfl⟩

structure Gr (w w':World):Prop where
 below:Below w.heap.size w w'
 drawn:w.drawn≤w'.drawn
theorem Gr.refl (w:World):Gr w w:=⟨Below.refl _ _,Nat.le_refl _⟩
theorem Gr.trans {w w1 w2:World} (h:Gr w w1) (h':Gr w1 w2):Gr w w2:=⟨h.below.trans (h'.below.mono h.below.size),Nat.le_trans h.drawn h'.drawn⟩
theorem Gr.alloc {w w1:World} (h:Gr w w1) (o:Obj):Gr w (w1.alloc o):=⟨h.below.alloc h.below.size o,h.drawn⟩
theorem Gr.drewN {w w1:World} (h:Gr w w1) (n:Nat):Gr w (w1.drewN n):=⟨below_drewN h.below n,Nat.le_trans h.drawn (Nat.le_add_right _ _)⟩
theorem Gr.drew {w w1:World} (h:Gr w w1):Gr w w1.drew:=⟨below_drew h.below,Nat.le_trans h.drawn (Nat.le_add_right _ _)⟩

set_option maxRecDepth 100000 in
set_option maxHeartbeats 1000000 in
theorem syn_orderG (x y:Rl) (w:World):Calls Tryz.prog 161 #[rv x,rv y] w fun e w'=>e=.returned (.int .i64 (cmpR x y))∧Gr w w':=by
 obtain ⟨a,b⟩:=x
 obtain ⟨c,d⟩:=y
 go_enter Tryz.func161,Tryz.ntmps161
 go_wp2_with fail
 refine region_tail 10 (by kernel_rfl) (by kernel_rfl) ?_
 simp only [List.take_succ_cons,List.take_zero,List.drop_succ_cons,List.drop_zero]
 repeat still_step
 still_call (cmp_call a c _)
 repeat still_step
 still_call (cmp_call b d _)
 repeat still_step
 refine wpStill_nil ?_
 have E:=Lib.hid (show cmpR ⟨a,b⟩ ⟨c,d⟩=orI (cmpS a c) (cmpS b d) from rfl)
 generalize cmpS a c=p at E ⊢
 generalize cmpS b d=q at E ⊢
 go_wp2_with fail
 refine (cmp_Or2 _ p q _ (by simp [go_sem]) (by simp [go_sem])).mono ?_
 rintro e w' ⟨rfl,rfl⟩
 go_wp2
 go_ret
 exact ⟨ret_int (by rw [E.out]),((((Gr.refl _).alloc _).alloc _).alloc _).drewN 1⟩

set_option maxRecDepth 100000 in
set_option maxHeartbeats 4000000 in
theorem syn_Order (s t:St) (w:World):Calls Tryz.prog 107 #[sv s,sv t] w fun e w'=>e=.returned (.int .i64 (cmpSt s t))∧Gr w w':=by
 obtain ⟨k,⟨h1,h2⟩,who,⟨a1,a2⟩,⟨b1,b2⟩,via⟩:=s
 obtain ⟨k',⟨h1',h2'⟩,who',⟨a1',a2'⟩,⟨b1',b2'⟩,via'⟩:=t
 have A1:=fun W=>syn_orderG ⟨h1,h2⟩ ⟨h1',h2'⟩ W
 have A2:=fun W=>cmp_Int k k' W
 have A3:=fun W=>cmp_call who who' W
 have A4:=fun W=>syn_orderG ⟨a1,a2⟩ ⟨a1',a2'⟩ W
 have A5:=fun W=>syn_orderG ⟨b1,b2⟩ ⟨b1',b2'⟩ W
 have A6:=fun W=>cmp_call via via' W
 have E:=Lib.hid (show cmpSt ⟨k,⟨h1,h2⟩,who,⟨a1,a2⟩,⟨b1,b2⟩,via⟩ ⟨k',⟨h1',h2'⟩,who',⟨a1',a2'⟩,⟨b1',b2'⟩,via'⟩=orL [cmpR ⟨h1,h2⟩ ⟨h1',h2'⟩,cmpI k k',cmpS who who',cmpR ⟨a1,a2⟩ ⟨a1',a2'⟩,cmpR ⟨b1,b2⟩ ⟨b1',b2'⟩,cmpS via via'] from rfl)
 generalize cmpR ⟨h1,h2⟩ ⟨h1',h2'⟩=p1 at A1 E
 generalize cmpI k k'=p2 at A2 E
 generalize cmpS who who'=p3 at A3 E
 generalize cmpR ⟨a1,a2⟩ ⟨a1',a2'⟩=p4 at A4 E
 generalize cmpR ⟨b1,b2⟩ ⟨b1',b2'⟩=p5 at A5 E
 generalize cmpS via via'=p6 at A6 E
 go_enter Tryz.func107,Tryz.ntmps107
 go_upto_region 1 with fail
 have HA:Blk (((w.alloc (.cells #[.int .i64 k,.string h1,.string h2,.string who,.string a1,.string a2,.string b1,.string b2,.string via] 80)).alloc (.cells #[.int .i64 k',.string h1',.string h2',.string who',.string a1',.string a2',.string b1',.string b2',.string via'] 80)).drew) w.heap.size #[.int .i64 k,.string h1,.string h2,.string who,.string a1,.string a2,.string b1,.string b2,.string via]:=(Blk.new w _ _).alloc _
 have HB:Blk (((w.alloc (.cells #[.int .i64 k,.string h1,.string h2,.string who,.string a1,.string a2,.string b1,.string b2,.string via] 80)).alloc (.cells #[.int .i64 k',.string h1',.string h2',.string who',.string a1',.string a2',.string b1',.string b2',.string via'] 80)).drew) (w.heap.size+1) #[.int .i64 k',.string h1',.string h2',.string who',.string a1',.string a2',.string b1',.string b2',.string via']:=by
  have:=Blk.new (w.alloc (.cells #[.int .i64 k,.string h1,.string h2,.string who,.string a1,.string a2,.string b1,.string b2,.string via] 80)) #[.int .i64 k',.string h1',.string h2',.string who',.string a1',.string a2',.string b1',.string b2',.string via'] 80
  simp only [World.size_alloc] at this
  exact this
 have HG:Gr w (((w.alloc (.cells #[.int .i64 k,.string h1,.string h2,.string who,.string a1,.string a2,.string b1,.string b2,.string via] 80)).alloc (.cells #[.int .i64 k',.string h1',.string h2',.string who',.string a1',.string a2',.string b1',.string b2',.string via'] 80)).drew):=(((Gr.refl w).alloc _).alloc _).drew
 go_region_held3 (fun W=>(∀ o,W.cell? ⟨w.heap.size,o,none⟩=(#[.int .i64 k,.string h1,.string h2,.string who,.string a1,.string a2,.string b1,.string b2,.string via]:Array Value)[o]?)∧(∀ o,W.cell? ⟨w.heap.size+1,o,none⟩=(#[.int .i64 k',.string h1',.string h2',.string who',.string a1',.string a2',.string b1',.string b2',.string via']:Array Value)[o]?))
  (first | exact ⟨HA.1,HB.1⟩ | exact ⟨(HA.alloc _).1,(HB.alloc _).1⟩ | go_keep)
  (first
   | (go_at_call_of 161 (Value.agg #[.string h1,.string h2]);refine (A1 _).mono ?_;rintro e wq ⟨rfl,hg⟩;have HG:=HG.trans hg;have HA:=HA.below hg.below;have HB:=HB.below hg.below;have cq1:=HA.1;have cq2:=HB.1)
   | (go_at_call_of 161 (Value.agg #[.string a1,.string a2]);refine (A4 _).mono ?_;rintro e wq ⟨rfl,hg⟩;have HG:=HG.trans hg;have HA:=HA.below hg.below;have HB:=HB.below hg.below;have cq1:=HA.1;have cq2:=HB.1)
   | (go_at_call_of 161 (Value.agg #[.string b1,.string b2]);refine (A5 _).mono ?_;rintro e wq ⟨rfl,hg⟩;have HG:=HG.trans hg;have HA:=HA.below hg.below;have HB:=HB.below hg.below;have cq1:=HA.1;have cq2:=HB.1)
   | (go_at_call_of 162 (Value.int .i64 k);refine (A2 _).mono ?_;rintro e wq ⟨rfl,rfl⟩;have cq1:=HA.1;have cq2:=HB.1)
   | (go_at_call_of 163 (Value.string who);refine (A3 _).mono ?_;rintro e wq ⟨rfl,rfl⟩;have cq1:=HA.1;have cq2:=HB.1)
   | (go_at_call_of 163 (Value.string via);refine (A6 _).mono ?_;rintro e wq ⟨rfl,rfl⟩;have cq1:=HA.1;have cq2:=HB.1)
   | (go_at_call 160;refine (cmp_OrL _ 6 [p1,p2,p3,p4,p5,p6] _ rfl (Nat.le_of_ble_eq_true rfl) ?_).mono ?_;(intro i hi;rcases i with _ | _ | _ | _ | _ | _ | i <;> simp [go_sem] <;> (simp at hi;omega));rintro e wq ⟨rfl,rfl⟩))
 go_wp2
 go_ret
 exact ⟨ret_int E.out.symm,HG.alloc _⟩

theorem syn_Sort1 (s t:St) (w:World):Calls Tryz.prog 192 #[sv s,sv t] w fun e w'=>e=.returned (.int .i64 (cmpSt s t))∧Gr w w':=by
 have A:=Lib.hid (fun W=>syn_Order s t W)
 generalize cmpSt s t=c at A ⊢
 obtain ⟨k,⟨h1,h2⟩,who,⟨a1,a2⟩,⟨b1,b2⟩,via⟩:=s
 obtain ⟨k',⟨h1',h2'⟩,who',⟨a1',a2'⟩,⟨b1',b2'⟩,via'⟩:=t
 go_enter Tryz.func192,Tryz.ntmps192
 go_wp2_with (go_at_call 107;refine (A.out _).mono ?_;rintro e w1 ⟨rfl,hg⟩)
 go_ret
 exact ⟨rfl,(((Gr.refl w).alloc _).alloc _).trans hg⟩
end
section
open Go.RowKit

theorem cmp_neg:∀ (a b:List UInt8),Lib.compareBytes b a = - Lib.compareBytes a b
 | [],[]=>rfl
 | [],_ :: _=>rfl
 | _ :: _,[]=>rfl
 | a :: xs,b :: ys=>by
  simp only [Lib.compareBytes]
  by_cases h1:a < b
  ·have h2:¬ b < a:=fun h=>UInt8.lt_irrefl a (UInt8.lt_trans h1 h)
   simp [h1,h2]
  ·by_cases h2:b < a
   ·simp [h1,h2]
   ·simp [h1,h2,cmp_neg xs ys]
theorem cmpS_neg (a b:ByteArray):cmpS b a = - cmpS a b:=cmp_neg _ _
theorem cmpR_neg (a b:Rl):cmpR b a = - cmpR a b:=by
 unfold cmpR orI
 rw [cmpS_neg a.o b.o,cmpS_neg a.n b.n]
 by_cases h:cmpS a.o b.o=0
 ·rw [if_pos (by omega),if_pos h]
 ·rw [if_neg (by omega),if_neg h]
theorem less_no {a b:Rl} (h:lessR b a=true):lessR a b=false:=by
 simp only [lessR,decide_eq_true_iff,decide_eq_false_iff_not] at h ⊢
 have:=cmpR_neg a b
 omega
theorem eqSt_self (s:St):eqSt s s=true:=by simp [eqSt]
end
section

structure WCmp {α:Type} (c:α→α→Int):Prop where
 neg:∀ x y,c y x = - c x y
 le:∀ x y z,c x y≤0→c y z≤0→c x z≤0∧(c x z=0→c x y=0∧c y z=0)
theorem WCmp.on {α β:Type} {c:α→α→Int} (h:WCmp c) (f:β→α):WCmp (fun x y=>c (f x) (f y)):=⟨fun _ _=>h.neg _ _,fun _ _ _=>h.le _ _ _⟩
theorem WCmp.or {α:Type} {c d:α→α→Int} (h:WCmp c) (h':WCmp d):WCmp (fun x y=>orI (c x y) (d x y)):=by
 refine ⟨fun x y=>?_,fun x y z=>?_⟩
 ·have:=h.neg x y;have:=h'.neg x y
  unfold orI;split <;> split <;> omega
 ·intro h1 h2
  have a1:c x y≤0:=by unfold orI at h1;split at h1 <;> omega
  have a2:c y z≤0:=by unfold orI at h2;split at h2 <;> omega
  obtain ⟨b1,b2⟩:=h.le x y z a1 a2
  by_cases h0:c x z=0
  ·obtain ⟨e1,e2⟩:=b2 h0
   rw [orI_yes e1] at h1 ⊢
   rw [orI_yes e2] at h2 ⊢
   rw [orI_yes h0]
   exact h'.le x y z h1 h2
  ·rw [orI_no h0]
   exact ⟨b1,fun e=>absurd e h0⟩
theorem wcmp_int:WCmp cmpI:=by
 refine ⟨fun x y=>?_,fun x y z=>?_⟩
 ·unfold cmpI;split <;> split <;> (try split) <;> omega
 ·unfold cmpI
  intro h1 h2
  split at h1 <;> split at h2 <;> (try split at h1) <;> (try split at h2) <;> (constructor <;> (try split) <;> (try split) <;> omega)
theorem cb_lt {a b:UInt8} (xs ys:List UInt8) (h:a.toNat < b.toNat):Lib.compareBytes (a :: xs) (b :: ys) = -1:=by
 simp only [Lib.compareBytes];rw [if_pos (UInt8.lt_iff_toNat_lt.2 h)]
theorem cb_gt {a b:UInt8} (xs ys:List UInt8) (h:b.toNat < a.toNat):Lib.compareBytes (a :: xs) (b :: ys)=1:=by
 simp only [Lib.compareBytes];rw [if_neg (fun h'=>by have:=UInt8.lt_iff_toNat_lt.1 h';omega),if_pos (UInt8.lt_iff_toNat_lt.2 h)]
theorem cb_eq (a:UInt8) (xs ys:List UInt8):Lib.compareBytes (a :: xs) (a :: ys)=Lib.compareBytes xs ys:=by
 simp only [Lib.compareBytes];rw [if_neg (UInt8.lt_irrefl a),if_neg (UInt8.lt_irrefl a)]
theorem cmpB_le:∀ (a b c:List UInt8),Lib.compareBytes a b≤0→Lib.compareBytes b c≤0→Lib.compareBytes a c≤0∧(Lib.compareBytes a c=0→Lib.compareBytes a b=0∧Lib.compareBytes b c=0)
 | [],[],c,_,h2=>⟨h2,fun h=>⟨rfl,h⟩⟩
 | [],y :: ys,[],h1,h2=>by simp [Lib.compareBytes] at h2
 | [],y :: ys,z :: zs,h1,h2=>by simp [Lib.compareBytes]
 | x :: xs,[],c,h1,h2=>by simp [Lib.compareBytes] at h1
 | x :: xs,y :: ys,[],h1,h2=>by simp [Lib.compareBytes] at h2
 | x :: xs,y :: ys,z :: zs,h1,h2=>by
  have ih:=cmpB_le xs ys zs
  rcases Nat.lt_trichotomy x.toNat y.toNat with a1 | a1 | a1
  ·rcases Nat.lt_trichotomy y.toNat z.toNat with b1 | b1 | b1
   ·rw [cb_lt xs zs (Nat.lt_trans a1 b1)];exact ⟨by omega,fun h=>by omega⟩
   ·rw [cb_lt xs zs (by omega)];exact ⟨by omega,fun h=>by omega⟩
   ·rw [cb_gt ys zs b1] at h2;omega
  ·obtain rfl:=UInt8.toNat_inj.1 a1
   rcases Nat.lt_trichotomy x.toNat z.toNat with b1 | b1 | b1
   ·rw [cb_lt xs zs b1];exact ⟨by omega,fun h=>by omega⟩
   ·obtain rfl:=UInt8.toNat_inj.1 b1
    rw [cb_eq] at h1 h2
    rw [cb_eq,cb_eq,cb_eq]
    exact ih h1 h2
   ·rw [cb_gt ys zs b1] at h2;omega
  ·rw [cb_gt xs ys a1] at h1;omega
theorem wcmp_str:WCmp cmpS:=⟨cmpS_neg,fun _ _ _=>cmpB_le _ _ _⟩
theorem wcmp_rl:WCmp cmpR:=(wcmp_str.on Rl.o).or (wcmp_str.on Rl.n)
theorem orL_one (x:Int):orL [x]=x:=by
 by_cases h:x=0
 ·rw [orL_yes h,h];rfl
 ·rw [orL_no h]
theorem orL_cons (x:Int) (r:List Int):orL (x :: r)=orI x (orL r):=rfl
theorem orL_last (x:Int):orI x (orL [])=x:=orL_one x
theorem cmpSt_def (x y:St):cmpSt x y=orI (cmpR x.h y.h) (orI (cmpI x.k y.k) (orI (cmpS x.who y.who) (orI (cmpR x.a y.a) (orI (cmpR x.b y.b) (cmpS x.via y.via))))):=by
 simp only [cmpSt,orL_cons,orL_last]
theorem wcmp_st:WCmp cmpSt:=by
 have h:=(wcmp_rl.on St.h).or ((wcmp_int.on St.k).or ((wcmp_str.on St.who).or ((wcmp_rl.on St.a).or ((wcmp_rl.on St.b).or (wcmp_str.on St.via)))))
 have e:cmpSt=fun x y=>orI (cmpR x.h y.h) (orI (cmpI x.k y.k) (orI (cmpS x.who y.who) (orI (cmpR x.a y.a) (orI (cmpR x.b y.b) (cmpS x.via y.via))))):=by
  funext x y
  exact cmpSt_def x y
 rw [e];exact h
theorem orI_zero {x y:Int}:orI x y=0↔x=0∧y=0:=by
 unfold orI;split <;> omega
theorem cmpI_zero (x y:Int):cmpI x y=0↔x=y:=by unfold cmpI;split <;> (try split) <;> omega
theorem cmpR_zero (x y:Rl):cmpR x y=0↔x=y:=by
 obtain ⟨a,b⟩:=x;obtain ⟨c,d⟩:=y
 simp only [cmpR,orI_zero,cmpS_zero,Rl.mk.injEq]
theorem cmpSt_zero (x y:St):cmpSt x y=0↔x=y:=by
 obtain ⟨k,h,who,a,b,via⟩:=x;obtain ⟨k',h',who',a',b',via'⟩:=y
 simp only [cmpSt_def,orI_zero,cmpR_zero,cmpS_zero,cmpI_zero,St.mk.injEq]
 constructor
 ·rintro ⟨a,b,c,d,e,f⟩;exact ⟨b,a,c,d,e,f⟩
 ·rintro ⟨a,b,c,d,e,f⟩;exact ⟨b,a,c,d,e,f⟩
def sgn (x:Int):Prop:=x = -1∨x=0∨x=1
theorem sgn_or {x y:Int} (h:sgn x) (h':sgn y):sgn (orI x y):=by unfold orI;split <;> assumption
theorem sgn_bytes:∀ (a b:List UInt8),sgn (Lib.compareBytes a b)
 | [],[]=>.inr (.inl rfl)
 | [],_ :: _=>.inl rfl
 | _ :: _,[]=>.inr (.inr rfl)
 | a :: xs,b :: ys=>by
  simp only [Lib.compareBytes]
  split
  ·exact .inl rfl
  ·split
   ·exact .inr (.inr rfl)
   ·exact sgn_bytes xs ys
theorem sgn_rl (x y:Rl):sgn (cmpR x y):=sgn_or (sgn_bytes _ _) (sgn_bytes _ _)
theorem lt_trans' {x y z:St} (h:cmpSt x y < 0) (h':cmpSt y z < 0):cmpSt x z < 0:=by
 obtain ⟨a,b⟩:=wcmp_st.le x y z (by omega) (by omega)
 have:¬ cmpSt x z=0:=fun e=>by have:=(b e).1;omega
 omega
theorem lt_irrefl' (x:St):¬ cmpSt x x < 0:=by have:=(cmpSt_zero x x).2 rfl;omega

def Asc (l:List St):Prop:=l.Pairwise fun x y=>cmpSt x y < 0
theorem asc_unique:∀ (l m:List St),Asc l→Asc m→(∀ x,x∈l↔x∈m)→l=m
 | [],[],_,_,_=>rfl
 | [],y :: m,_,_,h=>absurd ((h y).2 (by simp)) (by simp)
 | x :: l,[],_,_,h=>absurd ((h x).1 (by simp)) (by simp)
 | x :: l,y :: m,hl,hm,h=>by
  have hl':=List.pairwise_cons.1 hl
  have hm':=List.pairwise_cons.1 hm
  have e:x=y:=by
   rcases List.mem_cons.1 ((h x).1 (by simp)) with e | e
   ·exact e
   ·rcases List.mem_cons.1 ((h y).2 (by simp)) with e' | e'
    ·exact e'.symm
    ·exact absurd (lt_trans' (hm'.1 x e) (hl'.1 y e')) (lt_irrefl' y)
  subst e
  refine congrArg (x :: ·) (asc_unique l m hl'.2 hm'.2 fun z=>?_)
  constructor
  ·intro hz
   rcases List.mem_cons.1 ((h z).1 (by simp [hz])) with e | e
   ·subst e;exact absurd (hl'.1 z hz) (lt_irrefl' z)
   ·exact e
  ·intro hz
   rcases List.mem_cons.1 ((h z).2 (by simp [hz])) with e | e
   ·subst e;exact absurd (hm'.1 z hz) (lt_irrefl' z)
   ·exact e

def dedup:List St→List St
 | []=>[]
 | [x]=>[x]
 | x :: y :: r=>if x=y then dedup (y :: r) else x :: dedup (y :: r)
theorem dedup_mem:∀ (l:List St) (z:St),z∈dedup l↔z∈l
 | [],z=>by simp [dedup]
 | [x],z=>by simp [dedup]
 | x :: y :: r,z=>by
  have ih:=dedup_mem (y :: r) z
  unfold dedup
  by_cases e:x=y
  ·rw [if_pos e,ih,e];simp
  ·rw [if_neg e,List.mem_cons,ih,List.mem_cons (b:=x)]
theorem dedup_asc:∀ (l:List St),(l.Pairwise fun x y=>cmpSt x y≤0)→Asc (dedup l)
 | [],_=>List.Pairwise.nil
 | [x],_=>by simp [dedup,Asc]
 | x :: y :: r,h=>by
  have h':=List.pairwise_cons.1 h
  have ih:=dedup_asc (y :: r) h'.2
  unfold dedup
  by_cases e:x=y
  ·rw [if_pos e];exact ih
  ·rw [if_neg e]
   refine List.pairwise_cons.2 ⟨fun z hz=>?_,ih⟩
   have hxy:cmpSt x y < 0:=by
    have:=h'.1 y (by simp)
    have h0:¬ cmpSt x y=0:=fun e'=>e ((cmpSt_zero x y).1 e')
    omega
   have hz':=(dedup_mem (y :: r) z).1 hz
   rcases List.mem_cons.1 hz' with rfl | hz'
   ·exact hxy
   ·have hyz:=(List.pairwise_cons.1 h'.2).1 z hz'
    obtain ⟨a,b⟩:=wcmp_st.le x y z (by omega) hyz
    have:¬ cmpSt x z=0:=fun e=>by have:=(b e).1;omega
    omega
end
end Go.Proofs.YtomhekohcadijaaGreatDoor
