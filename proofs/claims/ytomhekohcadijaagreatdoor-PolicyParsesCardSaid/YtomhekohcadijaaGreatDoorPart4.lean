/- Parts: SynMore2 RefOrd RefRows -/
import Derived.Test.YtomhekohcadijaaGreatDoorPart3
namespace Go.Proofs.YtomhekohcadijaaGreatDoor
section
open Go.RowKit Go.Shelf

set_option maxRecDepth 100000 in
set_option maxHeartbeats 4000000 in
theorem ref3_Normal (s:St) (w:World) :
  Calls Tryz.prog 202 #[sv s] w fun e w'=>e=.returned (sv (normalS s))∧Below w.heap.size w w':=by
 obtain ⟨k,⟨h1,h2⟩,who,⟨a1,a2⟩,⟨b1,b2⟩,via⟩:=s
 by_cases k4:k=4
 ·subst k4
  cases hl:lessR ⟨b1,b2⟩ ⟨a1,a2⟩ with
  | true =>
   have R:=Lib.hid (normal_swap ⟨h1,h2⟩ who ⟨a1,a2⟩ ⟨b1,b2⟩ via hl)
   have HL:=Lib.hid hl
   clear hl
   go_enter Tryz.func202,Tryz.ntmps202
   go_wp2_with (go_at_call 58;refine (ref3_Less ⟨b1,b2⟩ ⟨a1,a2⟩ _).mono ?_;rw [HL.out];rintro e w1 ⟨rfl,hb⟩;obtain ⟨⟨ca,fa,za⟩,⟨cb,fb,zb⟩⟩:=keep2 hb)
   refine bodyPost_ret (v:=sv ⟨4,⟨h1,h2⟩,who,⟨b1,b2⟩,⟨a1,a2⟩,via⟩) (by simp [results,Tryz.results202,go_sem,cb,zb,World.cell?_alloc_past]) rfl ⟨by rw [R.out],?_⟩
   (repeat' (first | with_reducible exact Below.refl _ _ | with_reducible (refine Below.setCell ?_ ?_ _) | with_reducible (refine Below.alloc ?_ ?_ _) | with_reducible (refine below_drew ?_) | with_reducible (refine below_drewN ?_ _) | with_reducible (refine Below.trans ?_ (Below.mono (by assumption) ?_)) | omega | (simp;done) | (simp;omega)))
  | false =>
   have R:=Lib.hid (normal_same ⟨h1,h2⟩ who ⟨a1,a2⟩ ⟨b1,b2⟩ via hl)
   have HL:=Lib.hid hl
   clear hl
   go_enter Tryz.func202,Tryz.ntmps202
   go_wp2_with (go_at_call 58;refine (ref3_Less ⟨b1,b2⟩ ⟨a1,a2⟩ _).mono ?_;rw [HL.out];rintro e w1 ⟨rfl,hb⟩;obtain ⟨⟨ca,fa,za⟩,⟨cb,fb,zb⟩⟩:=keep2 hb)
   refine bodyPost_ret (v:=sv ⟨4,⟨h1,h2⟩,who,⟨a1,a2⟩,⟨b1,b2⟩,via⟩) (by simp [results,Tryz.results202,go_sem,cb]) rfl ⟨by rw [R.out],?_⟩
   (repeat' (first | with_reducible exact Below.refl _ _ | with_reducible (refine Below.setCell ?_ ?_ _) | with_reducible (refine Below.alloc ?_ ?_ _) | with_reducible (refine below_drew ?_) | with_reducible (refine below_drewN ?_ _) | with_reducible (refine Below.trans ?_ (Below.mono (by assumption) ?_)) | omega | (simp;done) | (simp;omega)))
 ·have R:=Lib.hid (normal_no k ⟨h1,h2⟩ who ⟨a1,a2⟩ ⟨b1,b2⟩ via k4)
  have q4:(k == 4)=false:=by rw [beq_eq_false_iff_ne];exact k4
  clear k4
  go_enter Tryz.func202,Tryz.ntmps202
  go_wp2
  refine bodyPost_ret (v:=sv ⟨k,⟨h1,h2⟩,who,⟨a1,a2⟩,⟨b1,b2⟩,via⟩) (by simp [results,Tryz.results202,go_sem]) rfl ⟨by rw [R.out],?_⟩
  (repeat' (first | with_reducible exact Below.refl _ _ | with_reducible (refine Below.setCell ?_ ?_ _) | with_reducible (refine Below.alloc ?_ ?_ _) | with_reducible (refine below_drew ?_) | with_reducible (refine below_drewN ?_ _) | with_reducible (refine Below.trans ?_ (Below.mono (by assumption) ?_)) | omega | (simp;done) | (simp;omega)))

theorem rolesS_two {s:St} (h:s.k=2∨s.k=3):rolesS s=[s.h,s.a]:=by unfold rolesS;rw [if_pos h]
theorem rolesS_three {s:St} (h:s.k=4):rolesS s=[s.h,s.a,s.b]:=by unfold rolesS;rw [if_neg (by omega),if_pos h]
theorem rolesS_one {s:St} (h:¬ s.k=2) (h3:¬ s.k=3) (h4:¬ s.k=4):rolesS s=[s.h]:=by unfold rolesS;rw [if_neg (by omega),if_neg h4]
theorem Sl.new (w:World) (cs:List Value) (t:TypeId) (size n g:Nat) (hg:g=w.heap.size) (hl:cs.length=n * size) (hm:n≤maxLen) :
  Sl (w.alloc (.cells cs.toArray t)) size (.slice (some ⟨g,0,none⟩) n n) n cs:=by
 subst hg
 refine ⟨hl,hm,.inr ⟨w.heap.size,0,n,rfl,Nat.le_refl _,hm,by simp,fun j u hu=>?_⟩⟩
 rw [(Blk.new w cs.toArray t).1]
 simpa using hu

set_option maxRecDepth 100000 in
set_option maxHeartbeats 4000000 in
theorem syn_Roles (s:St) (w:World) :
  Calls Tryz.prog 255 #[sv s] w fun e w' => ∃ v,e=.returned v∧Sl w' 2 v (rolesS s).length ((rolesS s).flatMap Rl.cells)∧Below w.heap.size w w':=by
 obtain ⟨k,⟨h1,h2⟩,who,⟨a1,a2⟩,⟨b1,b2⟩,via⟩:=s
 by_cases k2:k=2
 ·subst k2
  rw [rolesS_two (.inl rfl)]
  go_enter Tryz.func255,Tryz.ntmps255
  go_wp2
  go_ret
  refine ⟨.slice (some ⟨w.heap.size+1,0,none⟩) 2 2,rfl,Sl.new _ [.string h1,.string h2,.string a1,.string a2] _ 2 2 (w.heap.size+1) (by simp) rfl (by simp [maxLen]),((Below.refl _ _).alloc (Nat.le_refl _) _).alloc (by simp) _⟩
 by_cases k3:k=3
 ·subst k3
  rw [rolesS_two (.inr rfl)]
  go_enter Tryz.func255,Tryz.ntmps255
  go_wp2
  go_ret
  refine ⟨.slice (some ⟨w.heap.size+1,0,none⟩) 2 2,rfl,Sl.new _ [.string h1,.string h2,.string a1,.string a2] _ 2 2 (w.heap.size+1) (by simp) rfl (by simp [maxLen]),((Below.refl _ _).alloc (Nat.le_refl _) _).alloc (by simp) _⟩
 by_cases k4:k=4
 ·subst k4
  rw [rolesS_three rfl]
  go_enter Tryz.func255,Tryz.ntmps255
  go_wp2
  go_ret
  refine ⟨.slice (some ⟨w.heap.size+1,0,none⟩) 3 3,rfl,Sl.new _ [.string h1,.string h2,.string a1,.string a2,.string b1,.string b2] _ 2 3 (w.heap.size+1) (by simp) rfl (by simp [maxLen]),((Below.refl _ _).alloc (Nat.le_refl _) _).alloc (by simp) _⟩
 have q2:(k == 2)=false:=by rw [beq_eq_false_iff_ne];exact k2
 have q3:(k == 3)=false:=by rw [beq_eq_false_iff_ne];exact k3
 have q4:(k == 4)=false:=by rw [beq_eq_false_iff_ne];exact k4
 rw [rolesS_one k2 k3 k4]
 clear k2 k3 k4
 go_enter Tryz.func255,Tryz.ntmps255
 go_wp2
 go_ret
 refine ⟨.slice (some ⟨w.heap.size+1,0,none⟩) 1 1,rfl,Sl.new _ [.string h1,.string h2] _ 2 1 (w.heap.size+1) (by simp) rfl (by simp [maxLen]),((Below.refl _ _).alloc (Nat.le_refl _) _).alloc (by simp) _⟩

theorem rl_cell {w:World} {b off:Nat} {l:List Rl} (h:∀ j u,(l.flatMap Rl.cells)[j]? = some u→w.cell? ⟨b,off+j,none⟩=some u) (k:Nat) (hk:k < l.length) :
  w.cell? ⟨b,off+k * 2,none⟩=some (.string l[k].o)∧w.cell? ⟨b,off+k * 2+1,none⟩=some (.string l[k].n):=by
 have hx:l[k]? = some l[k]:=List.getElem?_eq_getElem hk
 have h0:=h _ _ ((flat_get Rl.cells 2 Rl.cells_len l k 0 (by omega) _ hx).trans rfl)
 have h1:=h _ _ ((flat_get Rl.cells 2 Rl.cells_len l k 1 (by omega) _ hx).trans rfl)
 exact ⟨h0,h1⟩
end
section
open Go.RowKit Go.Shelf

theorem cmpI_neg' (x y:Int):decide (cmpI x y < 0)=decide (x < y):=by
 unfold cmpI;split
 ·rename_i h;simp [h]
 ·rename_i h;split <;> simp [h]
theorem str_less (a b:ByteArray):decide (cmpS a b < 0)=Op.bytesLess a.toList b.toList:=by
 rw [toList_bl,toList_bl,cmp_less];rfl
section
variable {s t:St}
theorem bef1 (h:¬ s.h=t.h):decide (cmpSt s t < 0)=lessR s.h t.h:=by
 rw [cmpSt_def,orI_no (fun e=>h ((cmpR_zero _ _).1 e))];rfl
theorem bef2 (h1:s.h=t.h) (h2:¬ s.k=t.k):decide (cmpSt s t < 0)=decide (s.k < t.k):=by
 rw [cmpSt_def,orI_yes ((cmpR_zero _ _).2 h1),orI_no (fun e=>h2 ((cmpI_zero _ _).1 e)),cmpI_neg']
theorem bef3 (h1:s.h=t.h) (h2:s.k=t.k) (h3:¬ s.who=t.who):decide (cmpSt s t < 0)=Op.bytesLess s.who.toList t.who.toList:=by
 rw [cmpSt_def,orI_yes ((cmpR_zero _ _).2 h1),orI_yes ((cmpI_zero _ _).2 h2),orI_no (fun e=>h3 ((cmpS_zero _ _).1 e)),str_less]
theorem bef4 (h1:s.h=t.h) (h2:s.k=t.k) (h3:s.who=t.who) (h4:¬ s.a=t.a):decide (cmpSt s t < 0)=lessR s.a t.a:=by
 rw [cmpSt_def,orI_yes ((cmpR_zero _ _).2 h1),orI_yes ((cmpI_zero _ _).2 h2),orI_yes ((cmpS_zero _ _).2 h3),orI_no (fun e=>h4 ((cmpR_zero _ _).1 e))];rfl
theorem bef5 (h1:s.h=t.h) (h2:s.k=t.k) (h3:s.who=t.who) (h4:s.a=t.a) (h5:¬ s.b=t.b):decide (cmpSt s t < 0)=lessR s.b t.b:=by
 rw [cmpSt_def,orI_yes ((cmpR_zero _ _).2 h1),orI_yes ((cmpI_zero _ _).2 h2),orI_yes ((cmpS_zero _ _).2 h3),orI_yes ((cmpR_zero _ _).2 h4),orI_no (fun e=>h5 ((cmpR_zero _ _).1 e))];rfl
theorem bef6 (h1:s.h=t.h) (h2:s.k=t.k) (h3:s.who=t.who) (h4:s.a=t.a) (h5:s.b=t.b):decide (cmpSt s t < 0)=Op.bytesLess s.via.toList t.via.toList:=by
 rw [cmpSt_def,orI_yes ((cmpR_zero _ _).2 h1),orI_yes ((cmpI_zero _ _).2 h2),orI_yes ((cmpS_zero _ _).2 h3),orI_yes ((cmpR_zero _ _).2 h4),orI_yes ((cmpR_zero _ _).2 h5),str_less]
end

set_option maxRecDepth 100000 in
set_option maxHeartbeats 4000000 in
theorem ref3_Before (s t:St) (w:World):Calls Tryz.prog 56 #[sv s,sv t] w fun e w'=>e=.returned (.bool (decide (cmpSt s t < 0)))∧Below w.heap.size w w':=by
 obtain ⟨k,⟨h1,h2⟩,who,⟨a1,a2⟩,⟨b1,b2⟩,via⟩:=s
 obtain ⟨k',⟨h1',h2'⟩,who',⟨a1',a2'⟩,⟨b1',b2'⟩,via'⟩:=t
 have hEqR:=role_neq
 by_cases g1:(⟨h1,h2⟩:Rl)=⟨h1',h2'⟩
 case neg =>
  have E:=Lib.hid (bef1 (s:=⟨k,⟨h1,h2⟩,who,⟨a1,a2⟩,⟨b1,b2⟩,via⟩) (t:=⟨k',⟨h1',h2'⟩,who',⟨a1',a2'⟩,⟨b1',b2'⟩,via'⟩) g1)
  have q1:eqRl ⟨h1,h2⟩ ⟨h1',h2'⟩=false:=decide_eq_false g1
  clear g1
  go_enter Tryz.func56,Tryz.ntmps56
  go_wp2_with (go_at_call 58;refine (ref3_Less ⟨h1,h2⟩ ⟨h1',h2'⟩ _).mono ?_;rintro e w1 ⟨rfl,hb1⟩)
  go_ret
  refine ⟨ret_b E.out.symm,?_⟩
  (repeat' (first | with_reducible exact Below.refl _ _ | with_reducible assumption | with_reducible (refine Below.setCell ?_ ?_ _) | with_reducible (refine Below.alloc ?_ ?_ _) | with_reducible (refine below_drew ?_) | with_reducible (refine below_drewN ?_ _) | with_reducible (refine Below.trans ?_ (Below.mono (by assumption) ?_)) | omega | (simp;done) | (simp;omega)))
 by_cases g2:k=k'
 case neg =>
  have E:=Lib.hid (bef2 (s:=⟨k,⟨h1,h2⟩,who,⟨a1,a2⟩,⟨b1,b2⟩,via⟩) (t:=⟨k',⟨h1',h2'⟩,who',⟨a1',a2'⟩,⟨b1',b2'⟩,via'⟩) g1 g2)
  have q1:eqRl ⟨h1,h2⟩ ⟨h1',h2'⟩=true:=decide_eq_true g1
  have q2:(k != k')=true:=by simp [g2]
  clear g1 g2
  go_enter Tryz.func56,Tryz.ntmps56
  go_wp2
  go_ret
  refine ⟨ret_b E.out.symm,?_⟩
  (repeat' (first | with_reducible exact Below.refl _ _ | with_reducible assumption | with_reducible (refine Below.setCell ?_ ?_ _) | with_reducible (refine Below.alloc ?_ ?_ _) | with_reducible (refine below_drew ?_) | with_reducible (refine below_drewN ?_ _) | with_reducible (refine Below.trans ?_ (Below.mono (by assumption) ?_)) | omega | (simp;done) | (simp;omega)))
 by_cases g3:who=who'
 case neg =>
  have E:=Lib.hid (bef3 (s:=⟨k,⟨h1,h2⟩,who,⟨a1,a2⟩,⟨b1,b2⟩,via⟩) (t:=⟨k',⟨h1',h2'⟩,who',⟨a1',a2'⟩,⟨b1',b2'⟩,via'⟩) g1 g2 g3)
  have q1:eqRl ⟨h1,h2⟩ ⟨h1',h2'⟩=true:=decide_eq_true g1
  have q2:(k != k')=false:=by simp [g2]
  have q3:(who.toList == who'.toList)=false:=by rw [beq_str];simp [g3]
  clear g1 g2 g3
  go_enter Tryz.func56,Tryz.ntmps56
  go_wp2
  go_ret
  refine ⟨ret_b E.out.symm,?_⟩
  (repeat' (first | with_reducible exact Below.refl _ _ | with_reducible assumption | with_reducible (refine Below.setCell ?_ ?_ _) | with_reducible (refine Below.alloc ?_ ?_ _) | with_reducible (refine below_drew ?_) | with_reducible (refine below_drewN ?_ _) | with_reducible (refine Below.trans ?_ (Below.mono (by assumption) ?_)) | omega | (simp;done) | (simp;omega)))
 by_cases g4:(⟨a1,a2⟩:Rl)=⟨a1',a2'⟩
 case neg =>
  have E:=Lib.hid (bef4 (s:=⟨k,⟨h1,h2⟩,who,⟨a1,a2⟩,⟨b1,b2⟩,via⟩) (t:=⟨k',⟨h1',h2'⟩,who',⟨a1',a2'⟩,⟨b1',b2'⟩,via'⟩) g1 g2 g3 g4)
  have q1:eqRl ⟨h1,h2⟩ ⟨h1',h2'⟩=true:=decide_eq_true g1
  have q2:(k != k')=false:=by simp [g2]
  have q3:(who.toList == who'.toList)=true:=by rw [beq_str];simp [g3]
  have q4:eqRl ⟨a1,a2⟩ ⟨a1',a2'⟩=false:=decide_eq_false g4
  clear g1 g2 g3 g4
  go_enter Tryz.func56,Tryz.ntmps56
  go_wp2_with (go_at_call 58;refine (ref3_Less ⟨a1,a2⟩ ⟨a1',a2'⟩ _).mono ?_;rintro e w1 ⟨rfl,hb1⟩)
  go_ret
  refine ⟨ret_b E.out.symm,?_⟩
  (repeat' (first | with_reducible exact Below.refl _ _ | with_reducible assumption | with_reducible (refine Below.setCell ?_ ?_ _) | with_reducible (refine Below.alloc ?_ ?_ _) | with_reducible (refine below_drew ?_) | with_reducible (refine below_drewN ?_ _) | with_reducible (refine Below.trans ?_ (Below.mono (by assumption) ?_)) | omega | (simp;done) | (simp;omega)))
 by_cases g5:(⟨b1,b2⟩:Rl)=⟨b1',b2'⟩
 case neg =>
  have E:=Lib.hid (bef5 (s:=⟨k,⟨h1,h2⟩,who,⟨a1,a2⟩,⟨b1,b2⟩,via⟩) (t:=⟨k',⟨h1',h2'⟩,who',⟨a1',a2'⟩,⟨b1',b2'⟩,via'⟩) g1 g2 g3 g4 g5)
  have q1:eqRl ⟨h1,h2⟩ ⟨h1',h2'⟩=true:=decide_eq_true g1
  have q2:(k != k')=false:=by simp [g2]
  have q3:(who.toList == who'.toList)=true:=by rw [beq_str];simp [g3]
  have q4:eqRl ⟨a1,a2⟩ ⟨a1',a2'⟩=true:=decide_eq_true g4
  have q5:eqRl ⟨b1,b2⟩ ⟨b1',b2'⟩=false:=decide_eq_false g5
  clear g1 g2 g3 g4 g5
  go_enter Tryz.func56,Tryz.ntmps56
  go_wp2_with (go_at_call 58;refine (ref3_Less ⟨b1,b2⟩ ⟨b1',b2'⟩ _).mono ?_;rintro e w1 ⟨rfl,hb1⟩)
  go_ret
  refine ⟨ret_b E.out.symm,?_⟩
  (repeat' (first | with_reducible exact Below.refl _ _ | with_reducible assumption | with_reducible (refine Below.setCell ?_ ?_ _) | with_reducible (refine Below.alloc ?_ ?_ _) | with_reducible (refine below_drew ?_) | with_reducible (refine below_drewN ?_ _) | with_reducible (refine Below.trans ?_ (Below.mono (by assumption) ?_)) | omega | (simp;done) | (simp;omega)))
 have E:=Lib.hid (bef6 (s:=⟨k,⟨h1,h2⟩,who,⟨a1,a2⟩,⟨b1,b2⟩,via⟩) (t:=⟨k',⟨h1',h2'⟩,who',⟨a1',a2'⟩,⟨b1',b2'⟩,via'⟩) g1 g2 g3 g4 g5)
 have q1:eqRl ⟨h1,h2⟩ ⟨h1',h2'⟩=true:=decide_eq_true g1
 have q2:(k != k')=false:=by simp [g2]
 have q3:(who.toList == who'.toList)=true:=by rw [beq_str];simp [g3]
 have q4:eqRl ⟨a1,a2⟩ ⟨a1',a2'⟩=true:=decide_eq_true g4
 have q5:eqRl ⟨b1,b2⟩ ⟨b1',b2'⟩=true:=decide_eq_true g5
 clear g1 g2 g3 g4 g5
 go_enter Tryz.func56,Tryz.ntmps56
 go_wp2
 go_ret
 refine ⟨ret_b E.out.symm,?_⟩
 (repeat' (first | with_reducible exact Below.refl _ _ | with_reducible assumption | with_reducible (refine Below.setCell ?_ ?_ _) | with_reducible (refine Below.alloc ?_ ?_ _) | with_reducible (refine below_drew ?_) | with_reducible (refine below_drewN ?_ _) | with_reducible (refine Below.trans ?_ (Below.mono (by assumption) ?_)) | omega | (simp;done) | (simp;omega)))
end
section
open Go.RowKit Go.Shelf

instance:Inhabited St:=⟨noS⟩
def SlA (w:World) (size:Nat) (v:Value) (n:Nat) (xs:List Value):Prop:=Sl w size v n xs∨((∃ a c,v=.slice (some a) 0 c)∧n=0∧xs=[])
section
variable {w w':World} {size n:Nat} {v:Value} {xs:List Value}
theorem Sl.a (h:Sl w size v n xs):SlA w size v n xs:=.inl h
theorem SlA.max (h:SlA w size v n xs):n≤9223372036854775807:=by
 rcases h with h | ⟨_,rfl,_⟩
 ·exact h.max
 ·exact Nat.zero_le _
theorem SlA.below (h:SlA w size v n xs) (hb:Below w.heap.size w w'):SlA w' size v n xs:=by
 rcases h with h | h
 ·exact .inl (h.below hb)
 ·exact .inr h
theorem SlA.pos (h:SlA w size v n xs) (h0:0 < n) :
  ∃ b off cap,v=.slice (some ⟨b,off,none⟩) n cap∧n≤cap∧cap≤9223372036854775807∧b < w.heap.size∧∀ j u,xs[j]? = some u→w.cell? ⟨b,off+j,none⟩=some u:=by
 rcases h with h | ⟨_,rfl,_⟩
 ·exact h.pos h0
 ·omega
theorem SlA.form (h:SlA w size v n xs):∃ (a:Option Addr) (cap:Nat),v=.slice a n cap:=by
 rcases h with h | ⟨⟨a,c,rfl⟩,rfl,_⟩
 ·exact h.form
 ·exact ⟨_,_,rfl⟩
end
def hasS (l:List St) (s:St):Bool:=l.any (fun x=>eqSt x s)
theorem st_cell {w:World} {b off:Nat} {l:List St} (h:∀ j u,(l.flatMap St.cells)[j]? = some u→w.cell? ⟨b,off+j,none⟩=some u) (k:Nat) (hk:k < l.length) :
  w.cell? ⟨b,off+k * 9,none⟩=some (.int .i64 l[k].k)∧w.cell? ⟨b,off+k * 9+1,none⟩=some (.string l[k].h.o)∧w.cell? ⟨b,off+k * 9+2,none⟩=some (.string l[k].h.n)∧w.cell? ⟨b,off+k * 9+3,none⟩=some (.string l[k].who)∧w.cell? ⟨b,off+k * 9+4,none⟩=some (.string l[k].a.o)∧w.cell? ⟨b,off+k * 9+5,none⟩=some (.string l[k].a.n)∧w.cell? ⟨b,off+k * 9+6,none⟩=some (.string l[k].b.o)∧w.cell? ⟨b,off+k * 9+7,none⟩=some (.string l[k].b.n)∧w.cell? ⟨b,off+k * 9+8,none⟩=some (.string l[k].via):=by
 have hx:l[k]? = some l[k]:=List.getElem?_eq_getElem hk
 have h0:=h _ _ ((flat_get St.cells 9 St.cells_len l k 0 (by omega) _ hx).trans rfl)
 have h1:=h _ _ ((flat_get St.cells 9 St.cells_len l k 1 (by omega) _ hx).trans rfl)
 have h2:=h _ _ ((flat_get St.cells 9 St.cells_len l k 2 (by omega) _ hx).trans rfl)
 have h3:=h _ _ ((flat_get St.cells 9 St.cells_len l k 3 (by omega) _ hx).trans rfl)
 have h4:=h _ _ ((flat_get St.cells 9 St.cells_len l k 4 (by omega) _ hx).trans rfl)
 have h5:=h _ _ ((flat_get St.cells 9 St.cells_len l k 5 (by omega) _ hx).trans rfl)
 have h6:=h _ _ ((flat_get St.cells 9 St.cells_len l k 6 (by omega) _ hx).trans rfl)
 have h7:=h _ _ ((flat_get St.cells 9 St.cells_len l k 7 (by omega) _ hx).trans rfl)
 have h8:=h _ _ ((flat_get St.cells 9 St.cells_len l k 8 (by omega) _ hx).trans rfl)
 exact ⟨h0,h1,h2,h3,h4,h5,h6,h7,h8⟩
theorem same_len {l m:List St} (h:¬ l.length=m.length):decide (l=m)=false:=decide_eq_false (fun e=>h (by rw [e]))
theorem take_more {l m:List St} {k:Nat} (h:l.take k=m.take k) (hl:k < l.length) (hm:k < m.length) (e:l[k]=m[k]):l.take (k+1)=m.take (k+1):=by
 rw [List.take_succ_eq_append_getElem hl,List.take_succ_eq_append_getElem hm,h,e]
theorem same_end {l m:List St} {k:Nat} (h:l.take k=m.take k) (hl:¬ k < l.length) (hm:¬ k < m.length):decide (l=m)=true:=by
 rw [List.take_of_length_le (by omega),List.take_of_length_le (by omega)] at h
 exact decide_eq_true h
theorem same_no {l m:List St} {k:Nat} (hl:k < l.length) (hm:k < m.length) (e:¬ l[k]=m[k]):decide (l=m)=false:=decide_eq_false (fun h=>e (by subst h;rfl))

set_option maxRecDepth 100000 in
set_option maxHeartbeats 2000000 in
theorem ref3_Same (va vb:Value) (l m:List St) (w:World) (ha:SlA w 9 va l.length (l.flatMap St.cells)) (hb:SlA w 9 vb m.length (m.flatMap St.cells)) :
  Calls Tryz.prog 15 #[va,vb] w fun e w'=>e=.returned (.bool (decide (l=m)))∧∃ n,w'=w.drewN n:=by
 have hmax:=ha.max
 have hmax2:=hb.max
 by_cases hl:l.length=m.length
 case neg =>
  have R:=Lib.hid (same_len hl)
  have d:((l.length:Int) != (m.length:Int))=true:=by rw [bne_iff_ne];omega
  obtain ⟨a1,c1,rfl⟩:=ha.form
  obtain ⟨a2,c2,rfl⟩:=hb.form
  clear ha hb hl
  go_enter Tryz.func15,Tryz.ntmps15
  go_wp2
  go_ret
  exact ⟨ret_b R.out.symm,0,rfl⟩
 have hNe:=stmt_neq'
 have hne:((l.length:Int) != (m.length:Int))=false:=by rw [hl];simp
 by_cases h0:0 < l.length
 ·obtain ⟨b1,o1,c1,rfl,hc1,hm1,_,hx1⟩:=ha.pos h0
  obtain ⟨b2,o2,c2,rfl,hc2,hm2,_,hx2⟩:=hb.pos (by omega)
  have HX1:=Lib.hid hx1
  have HX2:=Lib.hid hx2
  have HL:=Lib.hid hl
  clear ha hb hx1 hx2 hl
  go_enter Tryz.func15,Tryz.ntmps15
  go_wp2
  go_loopw [13] (fun i wr => ∃ k n:Nat,k≤l.length∧i=.int .i64 k∧wr=w.drewN n∧Hid (l.take k=m.take k)) (fun i _=>l.length - (intOf i).toNat)
  case atStart=>exact ⟨0,0,by omega,rfl,rfl,Lib.hid (by simp)⟩
  case round =>
   obtain ⟨k,n,hk,rfl,rfl,HT⟩:=hrel
   by_cases hlt:k < l.length
   ·have hlt2:k < m.length:=by have:=HL.out;omega
    obtain ⟨p0,p1,p2,p3,p4,p5,p6,p7,p8⟩:=st_cell HX1.out k hlt
    obtain ⟨q0,q1,q2,q3,q4,q5,q6,q7,q8⟩:=st_cell HX2.out k hlt2
    by_cases he:l[k]=m[k]
    ·have HN:=Lib.hid (take_more HT.out hlt hlt2 he)
     have d1:(!eqSt ⟨l[k].k,⟨l[k].h.o,l[k].h.n⟩,l[k].who,⟨l[k].a.o,l[k].a.n⟩,⟨l[k].b.o,l[k].b.n⟩,l[k].via⟩ ⟨m[k].k,⟨m[k].h.o,m[k].h.n⟩,m[k].who,⟨m[k].a.o,m[k].a.n⟩,⟨m[k].b.o,m[k].b.n⟩,m[k].via⟩)=false:=by
      have:=congrArg (!·) (decide_eq_true he);exact this
     clear he
     go_wp2_with fail
     go_big_quiet (fail)
     go_wp2
     exact ⟨⟨k+1,n+nq,by omega,by go_num,rfl,HN⟩,by simp [intOf];omega⟩
    ·have R:=Lib.hid (same_no hlt hlt2 he)
     have d1:(!eqSt ⟨l[k].k,⟨l[k].h.o,l[k].h.n⟩,l[k].who,⟨l[k].a.o,l[k].a.n⟩,⟨l[k].b.o,l[k].b.n⟩,l[k].via⟩ ⟨m[k].k,⟨m[k].h.o,m[k].h.n⟩,m[k].who,⟨m[k].a.o,m[k].a.n⟩,⟨m[k].b.o,m[k].b.n⟩,m[k].via⟩)=true:=by
      have:=congrArg (!·) (decide_eq_false he);exact this
     clear he
     go_wp2_with fail
     go_big_quiet (fail)
     go_wp2
     go_ret
     exact ⟨ret_b R.out.symm,n+nq,by simp [World.drewN,Nat.add_assoc]⟩
   ·have R:=Lib.hid (same_end HT.out hlt (by have:=HL.out;omega))
    go_wp2
    go_ret
    exact ⟨ret_b R.out.symm,n,rfl⟩
 ·have R:=Lib.hid (same_end (l:=l) (m:=m) (k:=0) (by simp) h0 (by omega))
  obtain ⟨a1,c1,rfl⟩:=ha.form
  obtain ⟨a2,c2,rfl⟩:=hb.form
  have d0:l.length=0:=by omega
  have d02:m.length=0:=by omega
  clear ha hb h0 hmax hl hmax2
  go_enter Tryz.func15,Tryz.ntmps15
  go_wp2
  go_loopw [13] (fun i wr=>i=.int .i64 0∧wr=w) (fun _ _=>0)
  case atStart=>exact ⟨rfl,rfl⟩
  case round =>
   obtain ⟨rfl,rfl⟩:=hrel
   go_wp2
   go_ret
   exact ⟨ret_b R.out.symm,0,rfl⟩

theorem has_yes {l:List St} {s:St} {k:Nat} (hl:k < l.length) (e:l[k]=s):hasS l s=true:=by
 unfold hasS;rw [List.any_eq_true];exact ⟨l[k],List.getElem_mem hl,by simp [eqSt,e]⟩
theorem has_end {l:List St} {s:St} {k:Nat} (hk:¬ k < l.length) (h:∀ j (hj:j < l.length),j < k→¬ l[j]=s):hasS l s=false:=by
 unfold hasS;rw [List.any_eq_false]
 intro x hx
 obtain ⟨j,hj,rfl⟩:=List.getElem_of_mem hx
 simp [eqSt,h j hj (by omega)]
set_option maxRecDepth 100000 in
set_option maxHeartbeats 2000000 in
theorem ref3_Has (va:Value) (l:List St) (s:St) (w:World) (ha:SlA w 9 va l.length (l.flatMap St.cells)) :
  Calls Tryz.prog 55 #[va,sv s] w fun e w'=>e=.returned (.bool (hasS l s))∧Below w.heap.size w w':=by
 have hmax:=ha.max
 have hEq:=stmt_eql'
 by_cases h0:0 < l.length
 ·obtain ⟨b1,o1,c1,rfl,hc1,hm1,hb1,hx1⟩:=ha.pos h0
  have HX1:=Lib.hid hx1
  have HS:=Lib.hid (fun k (hl:k < l.length) (e:l[k]=s)=>has_yes hl e)
  have HE:=Lib.hid (fun k (hk:¬ k < l.length) h=>has_end (l:=l) (s:=s) (k:=k) hk h)
  have HD:=Lib.hid (fun k (hl:k < l.length)=>show (eqSt l[k] s=true↔l[k]=s) from decide_eq_true_iff)
  generalize hasS l s=res at HS HE ⊢
  clear ha hx1
  obtain ⟨ks,⟨h1,h2⟩,who,⟨a1,a2⟩,⟨b1',b2'⟩,via⟩:=s
  go_enter Tryz.func55,Tryz.ntmps55
  go_wp2
  go_loopw [9] (fun i wr => ∃ k:Nat,k≤l.length∧i=.int .i64 k∧Below w.heap.size w wr∧Blk wr w.heap.size #[.int .i64 ks,.string h1,.string h2,.string who,.string a1,.string a2,.string b1',.string b2',.string via]∧Hid (∀ j (hj:j < l.length),j < k→¬ l[j]=⟨ks,⟨h1,h2⟩,who,⟨a1,a2⟩,⟨b1',b2'⟩,via⟩)) (fun i _=>l.length - (intOf i).toNat)
  case atStart=>exact ⟨0,by omega,rfl,(Below.refl _ _).alloc (Nat.le_refl _) _,Blk.new _ _ _,Lib.hid (fun _ _ h=>absurd h (by omega))⟩
  case round =>
   obtain ⟨k,hk,rfl,hbw,hblk,HT⟩:=hrel
   have HBW:=Lib.hid hbw
   have HBK:=Lib.hid hblk
   have hz:=hbw.size
   obtain ⟨cs,fs,zs⟩:=hblk
   by_cases hlt:k < l.length
   ·obtain ⟨p0,p1,p2,p3,p4,p5,p6,p7,p8⟩:=st_cell (w:=wr) (fun j u hu=>(hbw.cell (p:=⟨b1,o1+j,none⟩) hb1).trans (HX1.out j u hu)) k hlt
    have hb1':b1 < wr.heap.size:=Nat.lt_of_lt_of_le hb1 hz
    have hD:=HD.out k hlt
    clear hbw
    cases he:eqSt l[k] ⟨ks,⟨h1,h2⟩,who,⟨a1,a2⟩,⟨b1',b2'⟩,via⟩ with
    | true =>
     have R:=Lib.hid (HS.out k hlt (hD.1 he))
     change eqSt ⟨l[k].k,⟨l[k].h.o,l[k].h.n⟩,l[k].who,⟨l[k].a.o,l[k].a.n⟩,⟨l[k].b.o,l[k].b.n⟩,l[k].via⟩ _=true at he
     clear hD
     go_wp2
     go_ret
     exact ⟨ret_b R.out.symm,HBW.out.alloc HBW.out.size _⟩
    | false =>
     have HN:Hid (∀ j (hj:j < l.length),j < k+1→¬ l[j]=⟨ks,⟨h1,h2⟩,who,⟨a1,a2⟩,⟨b1',b2'⟩,via⟩):=Lib.hid (fun j hj hjk=>by
      by_cases hjk':j < k
      ·exact HT.out j hj hjk'
      ·obtain rfl:j=k:=by omega
       intro e;rw [hD.2 e] at he;cases he)
     change eqSt ⟨l[k].k,⟨l[k].h.o,l[k].h.n⟩,l[k].who,⟨l[k].a.o,l[k].a.n⟩,⟨l[k].b.o,l[k].b.n⟩,l[k].via⟩ _=false at he
     clear hD
     go_wp2
     exact ⟨⟨k+1,by omega,by go_num,HBW.out.alloc HBW.out.size _,HBK.out.alloc _,HN⟩,by simp [intOf];omega⟩
   ·have R:=Lib.hid (HE.out k hlt HT.out)
    clear hbw
    go_wp2
    go_ret
    exact ⟨ret_b R.out.symm,HBW.out⟩
 ·obtain ⟨a1,c1,rfl⟩:=ha.form
  obtain rfl:l=[]:=List.eq_nil_of_length_eq_zero (by omega)
  clear ha h0 hmax
  obtain ⟨ks,⟨h1,h2⟩,who,⟨a1',a2'⟩,⟨b1',b2'⟩,via⟩:=s
  go_enter Tryz.func55,Tryz.ntmps55
  go_wp2
  go_loopw [9] (fun i wr=>i=.int .i64 0∧Below w.heap.size w wr) (fun _ _=>0)
  case atStart=>exact ⟨rfl,(Below.refl _ _).alloc (Nat.le_refl _) _⟩
  case round =>
   obtain ⟨rfl,hbw⟩:=hrel
   go_wp2
   go_ret
   exact ⟨rfl,hbw⟩
end
end Go.Proofs.YtomhekohcadijaaGreatDoor
