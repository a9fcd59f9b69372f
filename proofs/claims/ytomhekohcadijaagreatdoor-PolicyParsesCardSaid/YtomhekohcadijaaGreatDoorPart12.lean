/- Parts: Ref02Tok Ref02Alike RlConc RlDel Law10P DlLaw DlFns TwoAt DlSame PolBound StrCont QRead QAsk -/
import Derived.Test.YtomhekohcadijaaGreatDoorPart3
import Derived.Test.YtomhekohcadijaaGreatDoorPart10
import Derived.Test.YtomhekohcadijaaGreatDoorPart6
import Derived.Test.YtomhekohcadijaaGreatDoorPart7
import Derived.Test.YtomhekohcadijaaGreatDoorPart1
import Derived.Test.YtomhekohcadijaaGreatDoorPart11
import Derived.Test.YtomhekohcadijaaGreatDoorPart9
namespace Go.Proofs.YtomhekohcadijaaGreatDoor
section
open Go.RowKit Go.Shelf

theorem tok_push {w2:World} {B:Nat} {v:Value} {acc:List Tok} {X:ByteArray} {kd co:Int} (t:Tok) (ht:t.cells=[.int .i64 kd,.string X,.int .i64 co])
  (h:w2.ownsRow B 164 3 v (acc.length+1) (acc.flatMap Tok.cells++[.int .i64 kd,.string X,.int .i64 co])) :
  w2.ownsRow B 164 3 v (acc++[t]).length ((acc++[t]).flatMap Tok.cells):=by
 rw [List.length_append,List.flatMap_append]
 simp only [List.flatMap_cons,List.flatMap_nil,List.append_nil,ht]
 exact h

theorem word_at (s:ByteArray) (k j:Nat) (h1:k≤j) (h2:j≤s.size) (hal:∀ x∈((bl s).drop k).take (j - k),alnum x=true) (hc:∀ c,((bl s).drop k)[j - k]? = some c→alnum c=false) :
  (wordOf ((bl s).drop k)).length=j - k∧s.extract k j=⟨(wordOf ((bl s).drop k)).toArray⟩:=by
 have h:=word_stop _ _ hal (by rw [List.length_drop,bl_len];omega) hc
 have h3:=sword s k
 rw [h,show k+(j - k)=j by omega] at h3
 exact ⟨h,str_eq h3⟩
theorem alnum_big {c:UInt8} (h:btw c.toNat 65 90=true):alnum c=true:=by simp [alnum,h]
theorem alnum_small {c:UInt8} (h:btw c.toNat 97 122=true):alnum c=true:=by simp [alnum,h]
theorem alnum_fig {c:UInt8} (h:btw c.toNat 48 57=true):alnum c=true:=by simp [alnum,h]
theorem alnum_none {c:UInt8} (h1:btw c.toNat 65 90=false) (h2:btw c.toNat 97 122=false) (h3:btw c.toNat 48 57=false):alnum c=false:=by simp [alnum,h1,h2,h3]

set_option maxRecDepth 100000 in
set_option maxHeartbeats 4000000 in
theorem ref2_Tokens (s:ByteArray) (w:World) (hs:s.size≤200) :
  Calls Tryz.prog 129 #[.string s] w (TokPost (tokens (bl s)) w):=by
 have ht:tokens (bl s)=toks (bare (bl s)).length (bare (bl s)) 0 []:=by unfold tokens;rw [if_neg (by rw [bl_len];omega)]
 have HT:=Lib.hid ht
 have HB:=Lib.hid (ref2_Bare s w (by omega))
 have hle:=bare_le (bl s)
 rw [bl_len] at hle
 generalize hr:(⟨(bare (bl s)).toArray⟩:ByteArray)=r at HB
 have hbr:bl r=bare (bl s):=by rw [← hr]
 have hrs:r.size≤200:=by rw [← bl_len,hbr];omega
 have HR:=Lib.hid hbr
 clear hr hbr hle ht
 have h200:decide (200 < (s.size:Int))=false:=by simp;omega
 go_enter Tryz.func129,Tryz.ntmps129
 go_wp2_with (go_at_call 194;refine HB.out.mono ?_;rintro e w' ⟨rfl,rfl⟩)
 go_loopw [6,7] (TokRel w.heap.size w (bl r)) (fun _ i _=>r.size - (intOf i).toNat)
 case atStart=>exact ⟨0,(bl r).length,[],by omega,rfl,by omega,by simp,World.ownsRow_nil _ _ _ _,rfl,Below.refl _ _⟩
 case round =>
  obtain ⟨k,f,acc,hk,rfl,hf,hacc,hown,htk,hb⟩:=hrel
  rw [bl_len] at hk hf
  have HK:=Lib.hid htk
  clear htk
  have hsz0:=hb.size
  by_cases hlt:k < r.size
  ·obtain ⟨f,rfl⟩:∃ f',f=f'+1:=⟨f - 1,by omega⟩
   by_cases h32:r[k].toNat=32
   ·have b32:((r[k].toNat:Int) == 32)=true:=by rw [beq_iff_eq];omega
    have HN:=Lib.hid (HK.out.trans (toks_at_space r k f acc hlt h32))
    clear h32
    go_wp2
    exact ⟨⟨k+1,f,acc,by rw [bl_len];omega,by go_num,by rw [bl_len];omega,by omega,hown,HN.out,hb⟩,by simp [intOf];omega⟩
   ·have b32:((r[k].toNat:Int) == 32)=false:=by rw [beq_eq_false_iff_ne];omega
    have hbad:=toks_at_bad r k f acc hlt h32
    have hlong:=toks_at_long r k f acc hlt h32
    have hgo:=toks_at_go r k f acc hlt h32
    by_cases h46:r[k].toNat=46
    ·have b46:((r[k].toNat:Int) == 46)=true:=by rw [beq_iff_eq];omega
     rw [oneTok_dot r k hlt h46] at hgo
     have HN:=Lib.hid (HK.out.trans (hgo (by first | decide | (dsimp only;decide)) (by first | decide | (dsimp only;decide))))
     clear hbad hlong hgo h32 h46
     go_wp2_with (at_builtin;refine app_own Tryz.underlying160 tok_info rfl (by decide) (by decide) rfl _ _ rfl w.heap.size rfl (hown.alloc _) (tokCells 3 ⟨#[46]⟩ (k+1)) rfl (heap_new1 _ _) rfl (tok_one _ _ _) ?_ ?_ ?_;omega;(simp;omega);intro a' cap' w2 hown' hgrow)
     exact ⟨⟨k+1,f,acc++[⟨3,[46],k+1⟩],by rw [bl_len];omega,by go_num,by rw [bl_len];omega,by simp;omega,tok_push _ rfl hown',HN.out,(hb.alloc hsz0 _).grown hgrow (by simp;omega) (fun g hg=>(hown.lt g hg).1)⟩,by simp [intOf];omega⟩
    ·have b46:((r[k].toNat:Int) == 46)=false:=by rw [beq_eq_false_iff_ne];omega
     by_cases h38:r[k].toNat=38
     ·have b38:((r[k].toNat:Int) == 38)=true:=by rw [beq_iff_eq];omega
      rw [oneTok_amp r k hlt h38] at hgo
      have HN:=Lib.hid (HK.out.trans (hgo (by first | decide | (dsimp only;decide)) (by first | decide | (dsimp only;decide))))
      clear hbad hlong hgo h32 h46 h38
      go_wp2_with (at_builtin;refine app_own Tryz.underlying160 tok_info rfl (by decide) (by decide) rfl _ _ rfl w.heap.size rfl (hown.alloc _) (tokCells 5 ⟨#[38]⟩ (k+1)) rfl (heap_new1 _ _) rfl (tok_one _ _ _) ?_ ?_ ?_;omega;(simp;omega);intro a' cap' w2 hown' hgrow)
      exact ⟨⟨k+1,f,acc++[⟨5,[38],k+1⟩],by rw [bl_len];omega,by go_num,by rw [bl_len];omega,by simp;omega,tok_push _ rfl hown',HN.out,(hb.alloc hsz0 _).grown hgrow (by simp;omega) (fun g hg=>(hown.lt g hg).1)⟩,by simp [intOf];omega⟩
     ·have b38:((r[k].toNat:Int) == 38)=false:=by rw [beq_eq_false_iff_ne];omega
      by_cases h60:r[k].toNat=60
      ·have b60:((r[k].toNat:Int) == 60)=true:=by rw [beq_iff_eq];omega
       by_cases hnx:k+1 < r.size
       ·by_cases h45:r[k+1].toNat=45
        ·have b45:((r[k+1].toNat:Int) == 45)=true:=by rw [beq_iff_eq];omega
         rw [oneTok_arrow r k hlt h60 hnx h45] at hgo
         have HN:=Lib.hid (HK.out.trans (hgo (by first | decide | (dsimp only;decide)) (by first | decide | (dsimp only;decide))))
         clear hbad hlong hgo h32 h46 h38 h60 h45
         go_wp2_with (at_builtin;refine app_own Tryz.underlying160 tok_info rfl (by decide) (by decide) rfl _ _ rfl w.heap.size rfl (hown.alloc _) (tokCells 4 ⟨#[60,45]⟩ (k+1)) rfl (heap_new1 _ _) rfl (tok_one _ _ _) ?_ ?_ ?_;omega;(simp;omega);intro a' cap' w2 hown' hgrow)
         exact ⟨⟨k+2,f,acc++[⟨4,[60,45],k+1⟩],by rw [bl_len];omega,by go_num,by rw [bl_len];omega,by simp;omega,tok_push _ rfl hown',HN.out,(hb.alloc hsz0 _).grown hgrow (by simp;omega) (fun g hg=>(hown.lt g hg).1)⟩,by simp [intOf];omega⟩
        ·have b45:((r[k+1].toNat:Int) == 45)=false:=by rw [beq_eq_false_iff_ne];omega
         have hB:btw r[k].toNat 65 90=false:=by simp [btw];omega
         have hS:btw r[k].toNat 97 122=false:=by simp [btw];omega
         rw [oneTok_none r k hlt h46 h38 (fun x=>h45 x.2.2) hB hS] at hbad
         have HN:=Lib.hid (HK.out.trans (hbad rfl))
         clear hbad hlong hgo h32 h46 h38 h60 h45
         go_wp2_with (first | (go_at_call 195;refine (ref2_big _ _).mono ?_;rintro e w' ⟨rfl,rfl⟩) | (go_at_call 196;refine (ref2_small _ _).mono ?_;rintro e w' ⟨rfl,rfl⟩) | (go_at_call 197;refine (ref2_figure _ _).mono ?_;rintro e w' ⟨rfl,rfl⟩))
         go_ret3
         rw [HT.out,← HR.out,HN.out]
         exact ⟨_,rfl,World.ownsRow_nil _ _ _ _,hb⟩
       ·have hB:btw r[k].toNat 65 90=false:=by simp [btw];omega
        have hS:btw r[k].toNat 97 122=false:=by simp [btw];omega
        rw [oneTok_none r k hlt h46 h38 (fun x=>hnx x.2.1) hB hS] at hbad
        have HN:=Lib.hid (HK.out.trans (hbad rfl))
        clear hbad hlong hgo h32 h46 h38 h60
        go_wp2_with (first | (go_at_call 195;refine (ref2_big _ _).mono ?_;rintro e w' ⟨rfl,rfl⟩) | (go_at_call 196;refine (ref2_small _ _).mono ?_;rintro e w' ⟨rfl,rfl⟩) | (go_at_call 197;refine (ref2_figure _ _).mono ?_;rintro e w' ⟨rfl,rfl⟩))
        go_ret3
        rw [HT.out,← HR.out,HN.out]
        exact ⟨_,rfl,World.ownsRow_nil _ _ _ _,hb⟩
      ·have b60:((r[k].toNat:Int) == 60)=false:=by rw [beq_eq_false_iff_ne];omega
       cases hB:btw r[k].toNat 65 90 with
       | true =>
        rw [oneTok_big r k hlt hB] at hlong hgo
        clear hbad h32 h46 h38 h60
        go_wp2_with (first | (go_at_call 195;refine (ref2_big _ _).mono ?_;rintro e w' ⟨rfl,rfl⟩) | (go_at_call 196;refine (ref2_small _ _).mono ?_;rintro e w' ⟨rfl,rfl⟩) | (go_at_call 197;refine (ref2_figure _ _).mono ?_;rintro e w' ⟨rfl,rfl⟩))
        go_loop [9] (fun x => ∃ j:Nat,k≤j∧j≤r.size∧x=.int .i64 j∧∀ c∈((bl r).drop k).take (j - k),alnum c=true) (fun x=>r.size - (intOf x).toNat)
        case atStart=>exact ⟨k,by omega,by omega,rfl,by simp⟩
        case round =>
         obtain ⟨j,hj1,hj2,rfl,hal⟩:=hrel
         have HA:=Lib.hid hal
         clear hal
         by_cases hjl:j < r.size
         ·have hat:((bl r).drop k)[j - k]? = some r[j]:=by
           have:=bl_at r k (j - k) (by omega)
           simpa [show k+(j - k)=j by omega] using this
          have hmore:=fun ha=>(word_more _ (j - k) _ HA.out hat ha:∀ x∈((bl r).drop k).take (j - k+1),alnum x=true)
          have hw:=fun (ha:alnum r[j]=false)=>word_at r k j hj1 hj2 HA.out (fun c h=>by rw [hat] at h;cases h;exact ha)
          have hpos:alnum r[j]=false→k < j:=fun ha=>by
           rcases Nat.lt_or_ge k j with h | h
           ·exact h
           ·obtain rfl:k=j:=by omega
            rw [alnum_big hB] at ha
            cases ha
          rw [show j - k+1=j+1 - k by omega] at hmore
          clear hat
          cases h1:btw r[j].toNat 65 90 with
          | true =>
           have HM:=Lib.hid (hmore (alnum_big h1))
           clear hmore hw hpos hlong hgo
           go_wp2_with (first | (go_at_call 195;refine (ref2_big _ _).mono ?_;rintro e w' ⟨rfl,rfl⟩) | (go_at_call 196;refine (ref2_small _ _).mono ?_;rintro e w' ⟨rfl,rfl⟩) | (go_at_call 197;refine (ref2_figure _ _).mono ?_;rintro e w' ⟨rfl,rfl⟩) | (at_builtin;refine app_own Tryz.underlying160 tok_info rfl (by decide) (by decide) rfl _ _ rfl w.heap.size rfl (hown.alloc _) (tokCells 1 (r.extract k j) (k+1)) rfl (heap_new1 _ _) rfl (tok_one _ _ _) ?_ ?_ ?_;omega;(simp;omega);intro a' cap' w2 hown' hgrow))
           exact ⟨⟨j+1,by omega,by omega,by go_num,HM.out⟩,by simp [intOf];omega⟩
          | false =>
           cases h2:btw r[j].toNat 97 122 with
           | true =>
            have HM:=Lib.hid (hmore (alnum_small h2))
            clear hmore hw hpos hlong hgo
            go_wp2_with (first | (go_at_call 195;refine (ref2_big _ _).mono ?_;rintro e w' ⟨rfl,rfl⟩) | (go_at_call 196;refine (ref2_small _ _).mono ?_;rintro e w' ⟨rfl,rfl⟩) | (go_at_call 197;refine (ref2_figure _ _).mono ?_;rintro e w' ⟨rfl,rfl⟩) | (at_builtin;refine app_own Tryz.underlying160 tok_info rfl (by decide) (by decide) rfl _ _ rfl w.heap.size rfl (hown.alloc _) (tokCells 1 (r.extract k j) (k+1)) rfl (heap_new1 _ _) rfl (tok_one _ _ _) ?_ ?_ ?_;omega;(simp;omega);intro a' cap' w2 hown' hgrow))
            exact ⟨⟨j+1,by omega,by omega,by go_num,HM.out⟩,by simp [intOf];omega⟩
           | false =>
            cases h3:btw r[j].toNat 48 57 with
            | true =>
             have HM:=Lib.hid (hmore (alnum_fig h3))
             clear hmore hw hpos hlong hgo
             go_wp2_with (first | (go_at_call 195;refine (ref2_big _ _).mono ?_;rintro e w' ⟨rfl,rfl⟩) | (go_at_call 196;refine (ref2_small _ _).mono ?_;rintro e w' ⟨rfl,rfl⟩) | (go_at_call 197;refine (ref2_figure _ _).mono ?_;rintro e w' ⟨rfl,rfl⟩) | (at_builtin;refine app_own Tryz.underlying160 tok_info rfl (by decide) (by decide) rfl _ _ rfl w.heap.size rfl (hown.alloc _) (tokCells 1 (r.extract k j) (k+1)) rfl (heap_new1 _ _) rfl (tok_one _ _ _) ?_ ?_ ?_;omega;(simp;omega);intro a' cap' w2 hown' hgrow))
             exact ⟨⟨j+1,by omega,by omega,by go_num,HM.out⟩,by simp [intOf];omega⟩
            | false =>
             have hno:=alnum_none h1 h2 h3
             replace hw:=hw hno
             replace hpos:=fun (_:0=0)=>hpos hno
             clear hmore hno
             obtain ⟨hn,hx⟩:=hw
             have HX:=Lib.hid hx
             clear hx
             by_cases h8:8 < j - k
             ·have b8:decide (8 < (j:Int) - (k:Int))=true:=by simp;omega
              have HN:=Lib.hid (HK.out.trans (hlong (by first | decide | (dsimp only;decide)) (by first | omega | (dsimp only;omega))))
              clear hlong hgo hn
              go_wp2_with (first | (go_at_call 195;refine (ref2_big _ _).mono ?_;rintro e w' ⟨rfl,rfl⟩) | (go_at_call 196;refine (ref2_small _ _).mono ?_;rintro e w' ⟨rfl,rfl⟩) | (go_at_call 197;refine (ref2_figure _ _).mono ?_;rintro e w' ⟨rfl,rfl⟩) | (at_builtin;refine app_own Tryz.underlying160 tok_info rfl (by decide) (by decide) rfl _ _ rfl w.heap.size rfl (hown.alloc _) (tokCells 1 (r.extract k j) (k+1)) rfl (heap_new1 _ _) rfl (tok_one _ _ _) ?_ ?_ ?_;omega;(simp;omega);intro a' cap' w2 hown' hgrow))
              go_ret3
              rw [HT.out,← HR.out,HN.out]
              exact ⟨_,rfl,World.ownsRow_nil _ _ _ _,hb⟩
             ·have b8:decide (8 < (j:Int) - (k:Int))=false:=by simp;omega
              have hg:=HK.out.trans (hgo (by first | decide | (dsimp only;decide)) (by first | omega | (dsimp only;omega)))
              try dsimp only at hg
              rw [hn,show k+(j - k)=j by omega] at hg
              have HN:=Lib.hid hg
              have hjk:k < j:=hpos rfl
              clear hlong hgo hn hg
              go_wp2_with (first | (go_at_call 195;refine (ref2_big _ _).mono ?_;rintro e w' ⟨rfl,rfl⟩) | (go_at_call 196;refine (ref2_small _ _).mono ?_;rintro e w' ⟨rfl,rfl⟩) | (go_at_call 197;refine (ref2_figure _ _).mono ?_;rintro e w' ⟨rfl,rfl⟩) | (at_builtin;refine app_own Tryz.underlying160 tok_info rfl (by decide) (by decide) rfl _ _ rfl w.heap.size rfl (hown.alloc _) (tokCells 1 (r.extract k j) (k+1)) rfl (heap_new1 _ _) rfl (tok_one _ _ _) ?_ ?_ ?_;omega;(simp;omega);intro a' cap' w2 hown' hgrow))
              exact ⟨⟨j,f,acc++[⟨1,wordOf ((bl r).drop k),k+1⟩],by rw [bl_len];omega,rfl,by rw [bl_len];omega,by simp;omega,tok_push _ (by simp [Tok.cells,HX.out]) hown',HN.out,(hb.alloc hsz0 _).grown hgrow (by simp;omega) (fun g hg=>(hown.lt g hg).1)⟩,by simp [intOf];omega⟩
         ·have hw:=word_at r k j hj1 hj2 HA.out (fun c h=>by rw [List.getElem?_eq_none (by rw [List.length_drop,bl_len];omega)] at h;cases h)
          have hpos:0=0→k < j:=fun _=>by omega
          obtain ⟨hn,hx⟩:=hw
          have HX:=Lib.hid hx
          clear hx
          by_cases h8:8 < j - k
          ·have b8:decide (8 < (j:Int) - (k:Int))=true:=by simp;omega
           have HN:=Lib.hid (HK.out.trans (hlong (by first | decide | (dsimp only;decide)) (by first | omega | (dsimp only;omega))))
           clear hlong hgo hn
           go_wp2_with (first | (go_at_call 195;refine (ref2_big _ _).mono ?_;rintro e w' ⟨rfl,rfl⟩) | (go_at_call 196;refine (ref2_small _ _).mono ?_;rintro e w' ⟨rfl,rfl⟩) | (go_at_call 197;refine (ref2_figure _ _).mono ?_;rintro e w' ⟨rfl,rfl⟩) | (at_builtin;refine app_own Tryz.underlying160 tok_info rfl (by decide) (by decide) rfl _ _ rfl w.heap.size rfl (hown.alloc _) (tokCells 1 (r.extract k j) (k+1)) rfl (heap_new1 _ _) rfl (tok_one _ _ _) ?_ ?_ ?_;omega;(simp;omega);intro a' cap' w2 hown' hgrow))
           go_ret3
           rw [HT.out,← HR.out,HN.out]
           exact ⟨_,rfl,World.ownsRow_nil _ _ _ _,hb⟩
          ·have b8:decide (8 < (j:Int) - (k:Int))=false:=by simp;omega
           have hg:=HK.out.trans (hgo (by first | decide | (dsimp only;decide)) (by first | omega | (dsimp only;omega)))
           try dsimp only at hg
           rw [hn,show k+(j - k)=j by omega] at hg
           have HN:=Lib.hid hg
           have hjk:k < j:=hpos rfl
           clear hlong hgo hn hg
           go_wp2_with (first | (go_at_call 195;refine (ref2_big _ _).mono ?_;rintro e w' ⟨rfl,rfl⟩) | (go_at_call 196;refine (ref2_small _ _).mono ?_;rintro e w' ⟨rfl,rfl⟩) | (go_at_call 197;refine (ref2_figure _ _).mono ?_;rintro e w' ⟨rfl,rfl⟩) | (at_builtin;refine app_own Tryz.underlying160 tok_info rfl (by decide) (by decide) rfl _ _ rfl w.heap.size rfl (hown.alloc _) (tokCells 1 (r.extract k j) (k+1)) rfl (heap_new1 _ _) rfl (tok_one _ _ _) ?_ ?_ ?_;omega;(simp;omega);intro a' cap' w2 hown' hgrow))
           exact ⟨⟨j,f,acc++[⟨1,wordOf ((bl r).drop k),k+1⟩],by rw [bl_len];omega,rfl,by rw [bl_len];omega,by simp;omega,tok_push _ (by simp [Tok.cells,HX.out]) hown',HN.out,(hb.alloc hsz0 _).grown hgrow (by simp;omega) (fun g hg=>(hown.lt g hg).1)⟩,by simp [intOf];omega⟩
       | false =>
        cases hS:btw r[k].toNat 97 122 with
        | true =>
         rw [oneTok_small r k hlt hS] at hlong hgo
         clear hbad h32 h46 h38 h60
         go_wp2_with (first | (go_at_call 195;refine (ref2_big _ _).mono ?_;rintro e w' ⟨rfl,rfl⟩) | (go_at_call 196;refine (ref2_small _ _).mono ?_;rintro e w' ⟨rfl,rfl⟩) | (go_at_call 197;refine (ref2_figure _ _).mono ?_;rintro e w' ⟨rfl,rfl⟩))
         go_loop [9] (fun x => ∃ j:Nat,k≤j∧j≤r.size∧x=.int .i64 j∧∀ c∈((bl r).drop k).take (j - k),alnum c=true) (fun x=>r.size - (intOf x).toNat)
         case atStart=>exact ⟨k,by omega,by omega,rfl,by simp⟩
         case round =>
          obtain ⟨j,hj1,hj2,rfl,hal⟩:=hrel
          have HA:=Lib.hid hal
          clear hal
          by_cases hjl:j < r.size
          ·have hat:((bl r).drop k)[j - k]? = some r[j]:=by
            have:=bl_at r k (j - k) (by omega)
            simpa [show k+(j - k)=j by omega] using this
           have hmore:=fun ha=>(word_more _ (j - k) _ HA.out hat ha:∀ x∈((bl r).drop k).take (j - k+1),alnum x=true)
           have hw:=fun (ha:alnum r[j]=false)=>word_at r k j hj1 hj2 HA.out (fun c h=>by rw [hat] at h;cases h;exact ha)
           have hpos:alnum r[j]=false→k < j:=fun ha=>by
            rcases Nat.lt_or_ge k j with h | h
            ·exact h
            ·obtain rfl:k=j:=by omega
             rw [alnum_small hS] at ha
             cases ha
           rw [show j - k+1=j+1 - k by omega] at hmore
           clear hat
           cases h1:btw r[j].toNat 65 90 with
           | true =>
            have HM:=Lib.hid (hmore (alnum_big h1))
            clear hmore hw hpos hlong hgo
            go_wp2_with (first | (go_at_call 195;refine (ref2_big _ _).mono ?_;rintro e w' ⟨rfl,rfl⟩) | (go_at_call 196;refine (ref2_small _ _).mono ?_;rintro e w' ⟨rfl,rfl⟩) | (go_at_call 197;refine (ref2_figure _ _).mono ?_;rintro e w' ⟨rfl,rfl⟩) | (at_builtin;refine app_own Tryz.underlying160 tok_info rfl (by decide) (by decide) rfl _ _ rfl w.heap.size rfl (hown.alloc _) (tokCells 2 (r.extract k j) (k+1)) rfl (heap_new1 _ _) rfl (tok_one _ _ _) ?_ ?_ ?_;omega;(simp;omega);intro a' cap' w2 hown' hgrow))
            exact ⟨⟨j+1,by omega,by omega,by go_num,HM.out⟩,by simp [intOf];omega⟩
           | false =>
            cases h2:btw r[j].toNat 97 122 with
            | true =>
             have HM:=Lib.hid (hmore (alnum_small h2))
             clear hmore hw hpos hlong hgo
             go_wp2_with (first | (go_at_call 195;refine (ref2_big _ _).mono ?_;rintro e w' ⟨rfl,rfl⟩) | (go_at_call 196;refine (ref2_small _ _).mono ?_;rintro e w' ⟨rfl,rfl⟩) | (go_at_call 197;refine (ref2_figure _ _).mono ?_;rintro e w' ⟨rfl,rfl⟩) | (at_builtin;refine app_own Tryz.underlying160 tok_info rfl (by decide) (by decide) rfl _ _ rfl w.heap.size rfl (hown.alloc _) (tokCells 2 (r.extract k j) (k+1)) rfl (heap_new1 _ _) rfl (tok_one _ _ _) ?_ ?_ ?_;omega;(simp;omega);intro a' cap' w2 hown' hgrow))
             exact ⟨⟨j+1,by omega,by omega,by go_num,HM.out⟩,by simp [intOf];omega⟩
            | false =>
             cases h3:btw r[j].toNat 48 57 with
             | true =>
              have HM:=Lib.hid (hmore (alnum_fig h3))
              clear hmore hw hpos hlong hgo
              go_wp2_with (first | (go_at_call 195;refine (ref2_big _ _).mono ?_;rintro e w' ⟨rfl,rfl⟩) | (go_at_call 196;refine (ref2_small _ _).mono ?_;rintro e w' ⟨rfl,rfl⟩) | (go_at_call 197;refine (ref2_figure _ _).mono ?_;rintro e w' ⟨rfl,rfl⟩) | (at_builtin;refine app_own Tryz.underlying160 tok_info rfl (by decide) (by decide) rfl _ _ rfl w.heap.size rfl (hown.alloc _) (tokCells 2 (r.extract k j) (k+1)) rfl (heap_new1 _ _) rfl (tok_one _ _ _) ?_ ?_ ?_;omega;(simp;omega);intro a' cap' w2 hown' hgrow))
              exact ⟨⟨j+1,by omega,by omega,by go_num,HM.out⟩,by simp [intOf];omega⟩
             | false =>
              have hno:=alnum_none h1 h2 h3
              replace hw:=hw hno
              replace hpos:=fun (_:0=0)=>hpos hno
              clear hmore hno
              obtain ⟨hn,hx⟩:=hw
              have HX:=Lib.hid hx
              clear hx
              by_cases h8:8 < j - k
              ·have b8:decide (8 < (j:Int) - (k:Int))=true:=by simp;omega
               have HN:=Lib.hid (HK.out.trans (hlong (by first | decide | (dsimp only;decide)) (by first | omega | (dsimp only;omega))))
               clear hlong hgo hn
               go_wp2_with (first | (go_at_call 195;refine (ref2_big _ _).mono ?_;rintro e w' ⟨rfl,rfl⟩) | (go_at_call 196;refine (ref2_small _ _).mono ?_;rintro e w' ⟨rfl,rfl⟩) | (go_at_call 197;refine (ref2_figure _ _).mono ?_;rintro e w' ⟨rfl,rfl⟩) | (at_builtin;refine app_own Tryz.underlying160 tok_info rfl (by decide) (by decide) rfl _ _ rfl w.heap.size rfl (hown.alloc _) (tokCells 2 (r.extract k j) (k+1)) rfl (heap_new1 _ _) rfl (tok_one _ _ _) ?_ ?_ ?_;omega;(simp;omega);intro a' cap' w2 hown' hgrow))
               go_ret3
               rw [HT.out,← HR.out,HN.out]
               exact ⟨_,rfl,World.ownsRow_nil _ _ _ _,hb⟩
              ·have b8:decide (8 < (j:Int) - (k:Int))=false:=by simp;omega
               have hg:=HK.out.trans (hgo (by first | decide | (dsimp only;decide)) (by first | omega | (dsimp only;omega)))
               try dsimp only at hg
               rw [hn,show k+(j - k)=j by omega] at hg
               have HN:=Lib.hid hg
               have hjk:k < j:=hpos rfl
               clear hlong hgo hn hg
               go_wp2_with (first | (go_at_call 195;refine (ref2_big _ _).mono ?_;rintro e w' ⟨rfl,rfl⟩) | (go_at_call 196;refine (ref2_small _ _).mono ?_;rintro e w' ⟨rfl,rfl⟩) | (go_at_call 197;refine (ref2_figure _ _).mono ?_;rintro e w' ⟨rfl,rfl⟩) | (at_builtin;refine app_own Tryz.underlying160 tok_info rfl (by decide) (by decide) rfl _ _ rfl w.heap.size rfl (hown.alloc _) (tokCells 2 (r.extract k j) (k+1)) rfl (heap_new1 _ _) rfl (tok_one _ _ _) ?_ ?_ ?_;omega;(simp;omega);intro a' cap' w2 hown' hgrow))
               exact ⟨⟨j,f,acc++[⟨2,wordOf ((bl r).drop k),k+1⟩],by rw [bl_len];omega,rfl,by rw [bl_len];omega,by simp;omega,tok_push _ (by simp [Tok.cells,HX.out]) hown',HN.out,(hb.alloc hsz0 _).grown hgrow (by simp;omega) (fun g hg=>(hown.lt g hg).1)⟩,by simp [intOf];omega⟩
          ·have hw:=word_at r k j hj1 hj2 HA.out (fun c h=>by rw [List.getElem?_eq_none (by rw [List.length_drop,bl_len];omega)] at h;cases h)
           have hpos:0=0→k < j:=fun _=>by omega
           obtain ⟨hn,hx⟩:=hw
           have HX:=Lib.hid hx
           clear hx
           by_cases h8:8 < j - k
           ·have b8:decide (8 < (j:Int) - (k:Int))=true:=by simp;omega
            have HN:=Lib.hid (HK.out.trans (hlong (by first | decide | (dsimp only;decide)) (by first | omega | (dsimp only;omega))))
            clear hlong hgo hn
            go_wp2_with (first | (go_at_call 195;refine (ref2_big _ _).mono ?_;rintro e w' ⟨rfl,rfl⟩) | (go_at_call 196;refine (ref2_small _ _).mono ?_;rintro e w' ⟨rfl,rfl⟩) | (go_at_call 197;refine (ref2_figure _ _).mono ?_;rintro e w' ⟨rfl,rfl⟩) | (at_builtin;refine app_own Tryz.underlying160 tok_info rfl (by decide) (by decide) rfl _ _ rfl w.heap.size rfl (hown.alloc _) (tokCells 2 (r.extract k j) (k+1)) rfl (heap_new1 _ _) rfl (tok_one _ _ _) ?_ ?_ ?_;omega;(simp;omega);intro a' cap' w2 hown' hgrow))
            go_ret3
            rw [HT.out,← HR.out,HN.out]
            exact ⟨_,rfl,World.ownsRow_nil _ _ _ _,hb⟩
           ·have b8:decide (8 < (j:Int) - (k:Int))=false:=by simp;omega
            have hg:=HK.out.trans (hgo (by first | decide | (dsimp only;decide)) (by first | omega | (dsimp only;omega)))
            try dsimp only at hg
            rw [hn,show k+(j - k)=j by omega] at hg
            have HN:=Lib.hid hg
            have hjk:k < j:=hpos rfl
            clear hlong hgo hn hg
            go_wp2_with (first | (go_at_call 195;refine (ref2_big _ _).mono ?_;rintro e w' ⟨rfl,rfl⟩) | (go_at_call 196;refine (ref2_small _ _).mono ?_;rintro e w' ⟨rfl,rfl⟩) | (go_at_call 197;refine (ref2_figure _ _).mono ?_;rintro e w' ⟨rfl,rfl⟩) | (at_builtin;refine app_own Tryz.underlying160 tok_info rfl (by decide) (by decide) rfl _ _ rfl w.heap.size rfl (hown.alloc _) (tokCells 2 (r.extract k j) (k+1)) rfl (heap_new1 _ _) rfl (tok_one _ _ _) ?_ ?_ ?_;omega;(simp;omega);intro a' cap' w2 hown' hgrow))
            exact ⟨⟨j,f,acc++[⟨2,wordOf ((bl r).drop k),k+1⟩],by rw [bl_len];omega,rfl,by rw [bl_len];omega,by simp;omega,tok_push _ (by simp [Tok.cells,HX.out]) hown',HN.out,(hb.alloc hsz0 _).grown hgrow (by simp;omega) (fun g hg=>(hown.lt g hg).1)⟩,by simp [intOf];omega⟩
        | false =>
         rw [oneTok_none r k hlt h46 h38 (fun x=>h60 x.1) hB hS] at hbad
         have HN:=Lib.hid (HK.out.trans (hbad rfl))
         clear hbad hlong hgo h32 h46 h38 h60
         go_wp2_with (first | (go_at_call 195;refine (ref2_big _ _).mono ?_;rintro e w' ⟨rfl,rfl⟩) | (go_at_call 196;refine (ref2_small _ _).mono ?_;rintro e w' ⟨rfl,rfl⟩) | (go_at_call 197;refine (ref2_figure _ _).mono ?_;rintro e w' ⟨rfl,rfl⟩))
         go_ret3
         rw [HT.out,← HR.out,HN.out]
         exact ⟨_,rfl,World.ownsRow_nil _ _ _ _,hb⟩
  ·have HN:=Lib.hid (HK.out.trans (toks_at_end r k f acc hlt))
   go_wp2
   go_ret3
   rw [HT.out,← HR.out,HN.out]
   exact ⟨u6,rfl,hown,hb⟩
theorem ref2_Tokens_any (s:ByteArray) (w:World) (hs:s.size≤9223372036854775807):Calls Tryz.prog 129 #[.string s] w (TokPost (tokens (bl s)) w):=by
 by_cases h:s.size≤200
 ·exact ref2_Tokens s w h
 ·have HT:=Lib.hid (tokens_long s h)
  have h200:decide (200 < (s.size:Int))=true:=by simp;omega
  clear h
  go_enter Tryz.func129,Tryz.ntmps129
  go_wp2
  go_ret3
  rw [HT.out]
  exact ⟨_,rfl,World.ownsRow_nil _ _ _ _,Below.refl _ _⟩
end
section
open Go.RowKit Go.Shelf

theorem tok_cell {w:World} {b off:Nat} {l:List Tok} (h:∀ j u,(l.flatMap Tok.cells)[j]? = some u→w.cell? ⟨b,off+j,none⟩=some u) (k:Nat) (hk:k < l.length) :
  w.cell? ⟨b,off+k * 3,none⟩=some (.int .i64 l[k].kind)∧w.cell? ⟨b,off+k * 3+1,none⟩=some (.string ⟨l[k].text.toArray⟩)∧w.cell? ⟨b,off+k * 3+2,none⟩=some (.int .i64 l[k].col):=by
 have hx:l[k]? = some l[k]:=List.getElem?_eq_getElem hk
 have h0:=h _ _ ((flat_get Tok.cells 3 Tok.cells_len l k 0 (by omega) _ hx).trans rfl)
 have h1:=h _ _ ((flat_get Tok.cells 3 Tok.cells_len l k 1 (by omega) _ hx).trans rfl)
 have h2:=h _ _ ((flat_get Tok.cells 3 Tok.cells_len l k 2 (by omega) _ hx).trans rfl)
 exact ⟨h0,h1,h2⟩

end
section
open Go.RowKit Go.Shelf

theorem rl_Grow (n:Nat) (w:World) (hn:n≤2000):Calls Tryz.prog 293 #[.slice none 0 0,.int .i64 n] w fun e w' =>
  ∃ a cap,e=.returned (.slice a 0 cap)∧w'.ownsRow w.heap.size 78 2 (.slice a 0 cap) 0 []∧Below w.heap.size w w':=by
 by_cases h0:0 < n
 ·obtain ⟨inf,hinf,hz0,hz1,hz2⟩:=info_parts rl_info'
  refine (Any8.slices_Grow_grow Tryz.growR inf _ hinf hz0 (by omega) none 0 0 n [] w (Nat.le_refl _) (by omega) (by rw [hz2];omega) (by omega) (by simp) (fun _=>rfl) (fun a h=>by cases h)).mono ?_
  rintro e w' ⟨rfl,rfl⟩
  have hge:=grownCap_ge w (0+n) 0 78
  have hle:=grownCap_le_maxLen w (0+n) 0 78 (by simp only [maxLen];omega)
  refine ⟨_,_,rfl,World.ownsRow_made w.drew _ _ (Nat.le_refl _) hle ?_,(below_drew (Below.refl _ _)).alloc (Nat.le_refl _) _⟩
  rw [Nat.zero_add] at hge hle ⊢
  simp [Builtin.zeroCells,Value.cells]
  rw [show Tryz.growR_ren.t 25=78 from rfl]
  omega
 ·obtain rfl:n=0:=by omega
  refine (Any8.slices_Grow_room Tryz.growR none 0 0 0 w (Nat.le_refl _) (by omega) (by omega) (by omega)).mono ?_
  rintro e w' ⟨rfl,rfl⟩
  exact ⟨_,_,rfl,World.ownsRow_nil _ _ _ _,Below.refl _ _⟩
set_option maxRecDepth 100000 in
set_option maxHeartbeats 4000000 in
theorem rl_Concat (g:Nat) (va vb:Value) (l m:List Rl) (w:World) (hg:Blk w g #[va,vb]) (ha:SlA w 2 va l.length (l.flatMap Rl.cells)) (hb:SlA w 2 vb m.length (m.flatMap Rl.cells)) (hl:l.length≤1000) (hm:m.length≤1000) :
  Calls Tryz.prog 254 #[.slice (some ⟨g,0,none⟩) 2 2] w fun e w' => ∃ v,e=.returned v∧Sl w' 2 v (l++m).length ((l++m).flatMap Rl.cells)∧Below w.heap.size w w':=by
 have HA:=Lib.hid ha
 have HB:=Lib.hid hb
 have HG:=Lib.hid hg
 obtain ⟨ao,ac,hva⟩:=ha.form
 obtain ⟨bo,bc,hvb⟩:=hb.form
 subst hva hvb
 have GR:Hid (∀ W,Calls Tryz.prog 293 #[.slice none 0 0,.int .i64 ((l.length:Int)+(m.length:Int))] W fun e w' =>
   ∃ a cap,e=.returned (.slice a 0 cap)∧w'.ownsRow W.heap.size 78 2 (.slice a 0 cap) 0 []∧Below W.heap.size W w'):=Lib.hid (fun W=>by
  have h:=rl_Grow (l.length+m.length) W (by omega)
  rw [Int.natCast_add] at h
  exact h)
 have c0:w.cell? ⟨g,0,none⟩=some (.slice ao l.length ac):=(hg.1 0).trans rfl
 have c1:w.cell? ⟨g,1,none⟩=some (.slice bo m.length bc):=(hg.1 1).trans rfl
 have hgw:g < w.heap.size:=hg.2.2
 clear ha hb hg
 go_enter Tryz.func254,Tryz.ntmps254
 go_wp2
 go_loop [3,11] (fun n i=>(n=.int .i64 0∧i=.int .i64 0)∨(n=.int .i64 l.length∧i=.int .i64 1)∨(n=.int .i64 ((l.length:Int)+(m.length:Int))∧i=.int .i64 2)) (fun _ i=>2 - (intOf i).toNat)
 case atStart=>exact .inl ⟨rfl,rfl⟩
 case round =>
  obtain ⟨rfl,rfl⟩ | ⟨rfl,rfl⟩ | ⟨rfl,rfl⟩:=hrel
  ·have d:decide ((l.length:Int) < 0)=false:=by (rw [decide_eq_false_iff_not];omega)
   have hw:IntKind.i64.wrap ((0:Int)+(l.length:Int))=(l.length:Int):=by rw [Int.zero_add];exact Go.IntWalk.i64_in _ (by omega)
   go_wp2
   exact ⟨.inr (.inl ⟨rfl,rfl⟩),by simp [intOf]⟩
  ·have d:decide ((l.length:Int)+(m.length:Int) < 0)=false:=by (rw [decide_eq_false_iff_not];omega)
   have hw:IntKind.i64.wrap ((l.length:Int)+(m.length:Int))=(l.length:Int)+(m.length:Int):=Go.IntWalk.i64_in _ (by omega)
   go_wp2
   exact ⟨.inr (.inr ⟨rfl,rfl⟩),by simp [intOf]⟩
  ·go_wp2_with fail
   refine (GR.out _).mono ?_
   rintro e w1 ⟨a1,cap1,rfl,hown,hb1⟩
   have HO:=Lib.hid hown
   have HB1:=Lib.hid hb1
   clear hown hb1 c0 c1 hgw
   go_wp2_with fail
   go_loopw [6,27] (fun vo i wr=>Hid (Below w.heap.size w wr)∧((i=.int .i64 0∧Hid (wr.ownsRow w.heap.size 78 2 vo 0 []))∨(i=.int .i64 1∧Hid (wr.ownsRow w.heap.size 78 2 vo l.length (l.flatMap Rl.cells)))∨(i=.int .i64 2∧Hid (wr.ownsRow w.heap.size 78 2 vo (l.length+m.length) ((l++m).flatMap Rl.cells))))) (fun _ i _=>2 - (intOf i).toNat)
   case atStart=>exact ⟨HB1,.inl ⟨rfl,HO⟩⟩
   case round =>
    obtain ⟨HBR,⟨rfl,HOR⟩ | ⟨rfl,HOR⟩ | ⟨rfl,HOR⟩⟩:=hrel
    ·have hbk:=HG.out.below HBR.out
     have c0:wr.cell? ⟨g,0,none⟩=some (.slice ao l.length ac):=(hbk.1 0).trans rfl
     have hgw:g < wr.heap.size:=hbk.2.2
     obtain ⟨xo,xc,rfl⟩:=own_form HOR.out
     clear hbk
     go_wp2_with (at_builtin;refine halt_ ?_)
     unfold Halt_
     refine app_row Tryz.underlying23 rl_info' rfl (by decide) (by decide) rfl _ _ rfl w.heap.size rfl HOR.out rfl (HA.out.below HBR.out) (rls_one _) (by omega) HBR.out.size ?_
     intro a' cap' w3 hown' hgrow
     have HO3:=Lib.hid (show w3.ownsRow w.heap.size 78 2 (.slice a' l.length cap') l.length (l.flatMap Rl.cells) by simpa using hown')
     have HB3:=Lib.hid (below_own HBR.out HOR.out hgrow HBR.out.size (Nat.le_refl _))
     clear hown' hgrow
     go_wp2_with fail
     exact ⟨⟨HB3,.inr (.inl ⟨rfl,HO3⟩)⟩,by simp [intOf]⟩
    ·have hbk:=HG.out.below HBR.out
     have c1:wr.cell? ⟨g,1,none⟩=some (.slice bo m.length bc):=(hbk.1 1).trans rfl
     have hgw:g < wr.heap.size:=hbk.2.2
     obtain ⟨xo,xc,rfl⟩:=own_form HOR.out
     clear hbk
     go_wp2_with (at_builtin;refine halt_ ?_)
     unfold Halt_
     refine app_row Tryz.underlying23 rl_info' rfl (by decide) (by decide) rfl _ _ rfl w.heap.size rfl HOR.out rfl (HB.out.below HBR.out) (rls_one _) (by omega) HBR.out.size ?_
     intro a' cap' w3 hown' hgrow
     have HO3:=Lib.hid (show w3.ownsRow w.heap.size 78 2 (.slice a' (l.length+m.length) cap') (l.length+m.length) ((l++m).flatMap Rl.cells) by rw [rl_flat];exact hown')
     have HB3:=Lib.hid (below_own HBR.out HOR.out hgrow HBR.out.size (Nat.le_refl _))
     clear hown' hgrow
     go_wp2_with fail
     exact ⟨⟨HB3,.inr (.inr ⟨rfl,HO3⟩)⟩,by simp [intOf]⟩
    ·obtain ⟨xo,xc,rfl⟩:=own_form HOR.out
     have HS:=Lib.hid (Sl.of_own HOR.out)
     go_wp2_with fail
     go_ret
     exact ⟨_,rfl,by rw [List.length_append];exact HS.out,HBR.out⟩
end
section
open Go.RowKit Go.Shelf

end
section
open Go.RowKit Go.Shelf

end
section
open Go.RowKit Go.Shelf

abbrev dv (v0 v1 v2 v3 v4 v5:Value):Value:=.agg #[v0,v1,v2,v3,v4,v5]
end
section
open Go.RowKit Go.Shelf

end
section
open Go.RowKit Go.Shelf

structure TwoAt (w:World) (A B:Array Value) (wx:World):Prop where
 a:Blk wx w.heap.size A
 b:Blk wx (w.heap.size+1) B
 low:Below w.heap.size w wx
theorem TwoAt.later {w wx w':World} {A B:Array Value} (h:TwoAt w A B wx) (hb:Below wx.heap.size wx w'):TwoAt w A B w':=⟨h.a.below hb,h.b.below hb,h.low.trans (hb.mono h.low.size)⟩
theorem TwoAt.drew {w wx:World} {A B:Array Value} (h:TwoAt w A B wx):TwoAt w A B wx.drew:=h.later (below_drew (Below.refl _ _))
end
section
open Go.RowKit Go.Shelf

theorem TwoAt.new (w:World) (A B:Array Value) (t u:TypeId):TwoAt w A B ((w.alloc (.cells A t)).alloc (.cells B u)) :=
 ⟨(Blk.new w A t).alloc _,by have:=Blk.new (w.alloc (.cells A t)) B u;simpa using this,((Below.refl _ _).alloc (Nat.le_refl _) _).alloc (by simp) _⟩
end
section
open Go.RowKit Go.Shelf

def want4:Nat→Int
 | 0=>2
 | 1=>1
 | 2=>3
 | 3=>2
 | _=>0
theorem want_get {k:Nat} (h:k < 4):(#[.int .i64 2,.int .i64 1,.int .i64 3,.int .i64 2]:Array Value)[k]? = some (.int .i64 (want4 k)):=by
 match k,h with
 | 0,_=>rfl
 | 1,_=>rfl
 | 2,_=>rfl
 | 3,_=>rfl
theorem drop_want4 {k:Nat} (h:k < 4):([2,1,3,2]:List Int).drop k=want4 k :: ([2,1,3,2]:List Int).drop (k+1):=by
 match k,h with
 | 0,_=>rfl
 | 1,_=>rfl
 | 2,_=>rfl
 | 3,_=>rfl
theorem bound_go {l:List Tok} {k:Nat} (hlt:k < l.length) (h4:k < 4) (he:l[k].kind=want4 k):boundG (([2,1,3,2]:List Int).drop k) (l.drop k)=boundG (([2,1,3,2]:List Int).drop (k+1)) (l.drop (k+1)):=by
 rw [List.drop_eq_getElem_cons hlt,drop_want4 h4,boundG,if_pos he]
theorem bound_no {l:List Tok} {k:Nat} (hlt:k < l.length) (h4:k < 4) (he:¬ l[k].kind=want4 k):boundG (([2,1,3,2]:List Int).drop k) (l.drop k)=some l[k].col:=by
 rw [List.drop_eq_getElem_cons hlt,drop_want4 h4,boundG,if_neg he]
theorem bound_many {l:List Tok} {k:Nat} (hlt:k < l.length) (h4:¬ k < 4):boundG (([2,1,3,2]:List Int).drop k) (l.drop k)=some l[k].col:=by
 rw [List.drop_eq_getElem_cons hlt,List.drop_eq_nil_of_le (by simp;omega)];rfl
theorem boundT_some {l:List Tok} {e c:Int} (h:boundG [2,1,3,2] l=some c):boundT l e=(noR,c,2):=by unfold boundT;rw [h]
theorem boundT_few {l:List Tok} {e:Int} (h:boundG [2,1,3,2] l=none) (h4:l.length < 4):boundT l e=(noR,e,3):=by unfold boundT;rw [h];exact if_pos h4
theorem boundT_yes {l:List Tok} {e:Int} (h:boundG [2,1,3,2] l=none) (h4:¬ l.length < 4):boundT l e=(⟨txQ l 1,txQ l 3⟩,0,0):=by unfold boundT;rw [h];exact if_neg h4
theorem bound_nil (ks:List Int):boundG ks []=none:=by cases ks <;> rfl
theorem txQ_at4 {l:List Tok} {i:Nat} (h:i < l.length):txQ l i=⟨l[i].text.toArray⟩:=by unfold txQ;rw [List.getD_eq_getElem?_getD,List.getElem?_eq_getElem h];rfl
set_option maxRecDepth 100000 in
set_option maxHeartbeats 4000000 in
theorem policy_bound (s:ByteArray) (v:Value) (l:List Tok) (w:World) (hs:s.size < 4294967281) (hg:Gl w) (hv:Sl w 3 v l.length (l.flatMap Tok.cells)) :
  Calls Tryz.prog 126 #[.string s,v] w fun e w'=>e=.returned (.tuple #[rv (boundT l (endOf s)).1,.int .i64 (boundT l (endOf s)).2.1,.int .i64 (boundT l (endOf s)).2.2])∧Below w.heap.size w w':=by
 have HG:=Lib.hid hg
 have hmax:=hv.max
 have HC:=Lib.hid (fun (W:World) (h:Gl W)=>scan_cut s W hs h)
 have HT:=Lib.hid (fun W=>Tryz.strings_TrimRight_one (⟨(bare (bl s)).toArray⟩) 32 (by decide) W (by simp [ByteArray.size];have:=bare_le (bl s);rw [bl_len] at this;omega))
 have hend:endOf s≤4294967282:=by have:=trimRight_le (bare (bl s)) 32;have:=bare_le (bl s);rw [bl_len] at this;unfold endOf;omega
 have hend0:0≤endOf s:=by unfold endOf;omega
 have hE:endOf s=((Lib.trimRightB (bare (bl s)) 32).length:Int)+1:=rfl
 generalize endOf s=en at *
 generalize hr:(⟨(Lib.trimRightB (bare (bl s)) 32).toArray⟩:ByteArray)=tr at HT
 have htr:(tr.size:Int)+1=en:=by rw [← hr,hE];rfl
 clear hr hE
 have HV:=Lib.hid hv
 have HT0:=Lib.hid (TwoAt.new w #[.string emp,.string emp] #[.int .i64 2,.int .i64 1,.int .i64 3,.int .i64 2] 78 3)
 have RES:=Lib.hid (fun c (h:boundG [2,1,3,2] l=some c)=>boundT_some (e:=en) h)
 have RES2:=Lib.hid (fun (h:boundG [2,1,3,2] l=none) (h4:l.length < 4)=>boundT_few (e:=en) h h4)
 have RES3:=Lib.hid (fun (h:boundG [2,1,3,2] l=none) (h4:¬ l.length < 4)=>boundT_yes (e:=en) h h4)
 generalize boundT l en=res at RES RES2 RES3 ⊢
 obtain ⟨va,vc,rfl⟩:=hv.form
 clear hv hg
 go_enter Tryz.func126,Tryz.ntmps126
 go_wp2_with fail
 go_loopw [16] (fun i wr => ∃ k:Nat,k≤l.length∧k≤4∧i=.int .i64 k∧Hid (TwoAt w #[.string emp,.string emp] #[.int .i64 2,.int .i64 1,.int .i64 3,.int .i64 2] wr)∧Hid (boundG [2,1,3,2] l=boundG (([2,1,3,2]:List Int).drop k) (l.drop k))) (fun i _=>l.length - (intOf i).toNat)
 case atStart=>exact ⟨0,by omega,by omega,rfl,HT0,Lib.hid rfl⟩
 case round =>
  obtain ⟨k,hk,hk4,rfl,TR,HB⟩:=hrel
  by_cases hlt:k < l.length
  ·obtain ⟨b1,o1,c1,he1,hc1,hm1,hb1,hx1⟩:=HV.out.pos (by omega)
   simp only [Value.slice.injEq,true_and] at he1
   obtain ⟨rfl,rfl⟩:=he1
   obtain ⟨p0,p1,p2⟩:=tok_cell (w:=wr) (Sl.cells_later TR.out.low hb1 hx1) k hlt
   obtain ⟨ca,fa,za⟩:=TR.out.a
   obtain ⟨cb,fb,zb⟩:=TR.out.b
   clear hx1
   have HLOW:=Lib.hid TR.out.low
   by_cases h4:k < 4
   ·have d1:decide ((4:Int)≤(k:Int))=false:=by (rw [decide_eq_false_iff_not];omega)
    have q0:wr.cell? ⟨w.heap.size+1,k,none⟩=some (.int .i64 (want4 k)):=(cb k).trans (want_get h4)
    have hk4':k < 4:=h4
    by_cases he:l[k].kind=want4 k
    ·have HN:=Lib.hid (HB.out.trans (bound_go hlt h4 he))
     have d3:(l[k].kind != want4 k)=false:=by simp [he]
     have TN:=Lib.hid (fun n=>TR.out.later ((((Below.refl wr.heap.size wr).alloc (Nat.le_refl _) (.cells #[.int .i64 l[k].kind,.string ⟨l[k].text.toArray⟩,.int .i64 l[k].col] 164))).trans ((below_of_drewN n).mono (by simp))))
     clear he cb fb ca fa za
     go_wp2_with fail
     go_big_quiet (fail)
     go_wp2
     exact ⟨⟨k+1,by omega,by omega,by go_num,Lib.hid (TN.out _),HN⟩,by simp [intOf];omega⟩
    ·have HN:=Lib.hid (RES.out _ (HB.out.trans (bound_no hlt h4 he)))
     have d3:(l[k].kind != want4 k)=true:=by simp [he]
     clear he cb fb
     go_wp2_with fail
     go_big_quiet (fail)
     go_wp2_with fail
     go_region
     go_wp2
     refine bodyPost_ret (v:=.tuple #[rv noR,.int .i64 l[k].col,.int .i64 2]) (by simp [results,Tryz.results126,go_sem,ca,za,noR]) rfl ⟨by rw [HN.out],?_⟩
     have hb4:=HLOW.out
     (repeat' (first | with_reducible exact Below.refl _ _ | with_reducible assumption | with_reducible (refine Below.setCell ?_ ?_ _) | with_reducible (refine Below.alloc ?_ ?_ _) | with_reducible (refine below_drew ?_) | with_reducible (refine below_drewN ?_ _) | with_reducible (refine Below.trans ?_ (Below.mono (by assumption) ?_)) | omega | (simp;done) | (simp;omega)))
   ·obtain rfl:k=4:=by omega
    have HN:=Lib.hid (RES.out _ (HB.out.trans (bound_many hlt h4)))
    clear cb fb
    go_wp2_with fail
    go_big_quiet (fail)
    go_wp2_with fail
    go_region
    go_wp2
    refine bodyPost_ret (v:=.tuple #[rv noR,.int .i64 l[4].col,.int .i64 2]) (by simp [results,Tryz.results126,go_sem,ca,za,noR]) rfl ⟨by rw [HN.out],?_⟩
    have hb4:=HLOW.out
    (repeat' (first | with_reducible exact Below.refl _ _ | with_reducible assumption | with_reducible (refine Below.setCell ?_ ?_ _) | with_reducible (refine Below.alloc ?_ ?_ _) | with_reducible (refine below_drew ?_) | with_reducible (refine below_drewN ?_ _) | with_reducible (refine Below.trans ?_ (Below.mono (by assumption) ?_)) | omega | (simp;done) | (simp;omega)))
  ·have HN:boundG [2,1,3,2] l=none:=HB.out.trans (by rw [show l.drop k=[] from List.drop_eq_nil_of_le (by omega)];exact bound_nil _)
   have HLOW:=Lib.hid TR.out.low
   obtain ⟨ca,fa,za⟩:=TR.out.a
   by_cases h4:l.length < 4
   ·have d1:decide ((l.length:Int) < 4)=true:=by (rw [decide_eq_true_iff];omega)
    have RR:=Lib.hid (RES2.out HN h4)
    have hGW:=Lib.hid (HG.out.below HLOW.out)
    clear h4 HN
    go_wp2_with fail
    refine (HC.out wr hGW.out).mono ?_
    rintro e w' ⟨x,bb,rfl,n,rfl⟩
    go_wp2_with (go_at_call 155;refine (HT.out _).mono ?_;rintro e w' ⟨rfl,rfl⟩)
    refine bodyPost_ret (v:=.tuple #[rv noR,.int .i64 en,.int .i64 3]) (by simp [results,Tryz.results126,go_sem,ca,noR]) rfl ⟨by rw [RR.out],?_⟩
    have hb4:=HLOW.out
    (repeat' (first | with_reducible exact Below.refl _ _ | with_reducible assumption | with_reducible (refine Below.setCell ?_ ?_ _) | with_reducible (refine Below.alloc ?_ ?_ _) | with_reducible (refine below_drew ?_) | with_reducible (refine below_drewN ?_ _) | with_reducible (refine Below.trans ?_ (Below.mono (by assumption) ?_)) | omega | (simp;done) | (simp;omega)))
   ·have d1:decide ((l.length:Int) < 4)=false:=by (rw [decide_eq_false_iff_not];omega)
    have RR:=Lib.hid (RES3.out HN h4)
    have h1:1 < l.length:=by omega
    have h3:3 < l.length:=by omega
    obtain ⟨b1,o1,c1,he1,hc1,hm1,hb1,hx1⟩:=HV.out.pos (by omega)
    simp only [Value.slice.injEq,true_and] at he1
    obtain ⟨rfl,rfl⟩:=he1
    obtain ⟨_,p1,_⟩:=tok_cell (w:=wr) (Sl.cells_later HLOW.out hb1 hx1) 1 h1
    obtain ⟨_,p3,_⟩:=tok_cell (w:=wr) (Sl.cells_later HLOW.out hb1 hx1) 3 h3
    rw [txQ_at4 h1,txQ_at4 h3] at RR
    generalize l[1].text=t1 at *
    generalize l[3].text=t3 at *
    clear h4 HN hx1
    go_wp2_with fail
    go_region
    go_wp2
    refine bodyPost_ret (v:=.tuple #[rv ⟨⟨t1.toArray⟩,⟨t3.toArray⟩⟩,.int .i64 0,.int .i64 0]) (by simp [results,Tryz.results126,go_sem,ca]) rfl ⟨by rw [RR.out],?_⟩
    have hb4:=HLOW.out
    (repeat' (first | with_reducible exact Below.refl _ _ | with_reducible assumption | with_reducible (refine Below.setCell ?_ ?_ _) | with_reducible (refine Below.alloc ?_ ?_ _) | with_reducible (refine below_drew ?_) | with_reducible (refine below_drewN ?_ _) | with_reducible (refine Below.trans ?_ (Below.mono (by assumption) ?_)) | omega | (simp;done) | (simp;omega)))
end
section
open Go.RowKit Go.Shelf

set_option maxRecDepth 100000 in
set_option maxHeartbeats 2000000 in
theorem str_IndexC (va:Value) (l:List ByteArray) (s:ByteArray) (w:World) (ha:SlA w 1 va l.length (strs l)) :
  Calls Tryz.prog 75 #[va,.string s] w fun e w'=>(∃ i:Int,e=.returned (.int .i64 i)∧hasB l s=decide (0≤i))∧w'=w:=by
 have HA:=Lib.hid ha
 have hmax:=ha.max
 obtain ⟨ao,cap,hva⟩:=ha.form
 subst hva
 clear ha
 have HY:=Lib.hid (fun k (hk:k < l.length) (e:l[k]=s)=>hasB_yes hk e)
 have HN:=Lib.hid (fun k (hk:¬ k < l.length) h=>hasB_end (l:=l) (s:=s) (k:=k) hk h)
 generalize hasB l s=res at HY HN ⊢
 go_enter Tryz.func75,Tryz.ntmps75
 go_wp2
 go_loopw [8] (fun i wr => ∃ k:Nat,k≤l.length∧i=.int .i64 k∧Hid (∀ j (hj:j < l.length),j < k→¬ l[j]=s)∧wr=w) (fun i _=>l.length - (intOf i).toNat)
 case atStart=>exact ⟨0,by omega,rfl,Lib.hid (fun _ _ h=>absurd h (by omega)),rfl⟩
 case round =>
  obtain ⟨k,hk,rfl,HJ,rfl⟩:=hrel
  by_cases hlt:k < l.length
  ·obtain ⟨b1,o1,c1,he1,hc1,hm1,hb1,hx1⟩:=HA.out.pos (by omega)
   simp only [Value.slice.injEq,true_and] at he1
   obtain ⟨rfl,rfl⟩:=he1
   have p0:=hx1 k _ (strs_get hlt)
   have YES:=Lib.hid (HY.out k hlt)
   have HJ2:Hid (¬ l[k]=s→∀ j (hj:j < l.length),j < k+1→¬ l[j]=s):=Lib.hid (fun hpk j hj hjk=>by
    by_cases h:j < k
    ·exact HJ.out j hj h
    ·obtain rfl:j=k:=by omega
     exact hpk)
   clear hx1
   generalize l[k]=x at *
   by_cases e:x=s
   ·have d:(s.toList == x.toList)=true:=by rw [beq_str,e];exact decide_eq_true rfl
    have d':(x.toList == s.toList)=true:=by rw [beq_str,e];exact decide_eq_true rfl
    have R:=Lib.hid (YES.out e)
    clear e
    go_wp2
    go_ret
    exact ⟨⟨(k:Int),rfl,by rw [R.out,decide_eq_true (Int.natCast_nonneg k)]⟩,rfl⟩
   ·have d:(s.toList == x.toList)=false:=by rw [beq_str];exact decide_eq_false (fun h=>e h.symm)
    have d':(x.toList == s.toList)=false:=by rw [beq_str];exact decide_eq_false e
    have HJ3:=Lib.hid (HJ2.out e)
    clear e
    go_wp2
    exact ⟨⟨k+1,by omega,by go_num,HJ3,by first | rfl | trivial⟩,by simp [intOf];omega⟩
  ·have R:=Lib.hid (HN.out k hlt HJ.out)
   go_wp2
   go_ret
   exact ⟨⟨-1,rfl,by rw [R.out];rfl⟩,rfl⟩
set_option maxHeartbeats 1000000 in
theorem str_ContainsC (va:Value) (l:List ByteArray) (s:ByteArray) (w:World) (ha:SlA w 1 va l.length (strs l)) :
  Calls Tryz.prog 240 #[va,.string s] w fun e w'=>e=.returned (.bool (hasB l s))∧w'=w:=by
 have I:=Lib.hid (str_IndexC va l s w ha)
 generalize hasB l s=res at I ⊢
 clear ha
 go_enter Tryz.func240,Tryz.ntmps240
 go_wp2_with fail
 refine I.out.mono ?_
 rintro e w1 ⟨⟨i,rfl,hi⟩,rfl⟩
 have HI:=Lib.hid hi
 clear hi
 go_wp2
 go_ret
 exact ⟨ret_b HI.out.symm,rfl⟩
end
section
open Go.RowKit Go.Shelf

abbrev tkv (t:Tok):Value:=.agg #[.int .i64 t.kind,.string ⟨t.text.toArray⟩,.int .i64 t.col]
def Rd.failQ (r:Rd) (y:Int):Rd:=if r.why≠0 then r else match r.l with | []=>⟨[],r.e,r.e,y⟩ | t :: l=>⟨t :: l,r.e,t.col,y⟩
theorem failQ_why (r:Rd) (y:Int) (h:r.why≠0):r.failQ y=r:=if_pos h
theorem failQ_nil (e p y:Int):(Rd.mk [] e p 0).failQ y=⟨[],e,e,y⟩:=rfl
theorem failQ_cons (t:Tok) (l:List Tok) (e p y:Int):(Rd.mk (t :: l) e p 0).failQ y=⟨t :: l,e,t.col,y⟩:=rfl
set_option maxRecDepth 100000 in
set_option maxHeartbeats 2000000 in
theorem qr_fail (r:Rd) (w0 w:World) (g:Nat) (y:Int) (h:RdAt w0 w g r) :
  Calls Tryz.prog 185 #[.pointer (some ⟨g,0,none⟩),.int .i64 y] w fun e w'=>e=.returned (.tuple #[])∧RdAt w0 w' g (r.failQ y)∧w.grownBy w' (some g):=by
 have H:=Lib.hid h
 obtain ⟨hlow,hbel,lv,hs,hblk⟩:=h
 obtain ⟨l,e,p,why⟩:=r
 have hg:=hblk.2.2
 have c0:=hblk.cell 0 lv rfl
 have c1:=hblk.cell 1 (.int .i64 e) rfl
 have c2:=hblk.cell 2 (.int .i64 p) rfl
 have c3:=hblk.cell 3 (.int .i64 why) rfl
 have f0:=hblk.2.1
 by_cases hw:why=0
 ·subst hw
  have HS:=Lib.hid hs
  have HB:=Lib.hid hblk
  have HBE:=Lib.hid hbel
  cases l with
  | nil =>
   have E:=Lib.hid (failQ_nil e p y)
   obtain ⟨a,cap,rfl⟩:=hs.form
   clear hs hblk hbel
   go_enter Tryz.func185,Tryz.ntmps185
   go_wp2
   go_end0
   rw [E.out]
   exact ⟨rfl,⟨hlow,(HBE.out.setCell hlow _).setCell hlow _,_,HS.out,((HB.out.set 3 _ (by simp)).set 2 _ (by simp))⟩,gb_setCell (gb_setCell (World.grownBy.refl _ _) _) _⟩
  | cons t tl =>
   obtain ⟨b,off,cap,rfl,hc,hm,hlt,hx⟩:=hs.pos (by simp)
   obtain ⟨t0,t1,t2⟩:=tk_head (Sl.cells_later hbel hlt hx)
   have hbg:¬ b=g:=by omega
   have hbw:b < w.heap.size:=by have:=hbel.size;omega
   have E:=Lib.hid (failQ_cons t tl e p y)
   clear hs hblk hbel hx
   have d1:decide ((0:Int) < (tl.length:Int)+1)=true:=by (rw [decide_eq_true_iff];omega)
   go_enter Tryz.func185,Tryz.ntmps185
   go_wp2
   go_end0
   rw [E.out]
   exact ⟨rfl,⟨hlow,((HBE.out.setCell hlow _).setCell hlow _).setCell hlow _,_,HS.out,(((HB.out.set 3 _ (by simp)).set 2 _ (by simp)).set 2 _ (by simp))⟩,gb_setCell (gb_setCell (gb_setCell (World.grownBy.refl _ _) _) _) _⟩
 ·have d:(why != 0)=true:=by simp [hw]
  have E:=Lib.hid (failQ_why ⟨l,e,p,why⟩ y hw)
  clear hw hs hblk hbel
  go_enter Tryz.func185,Tryz.ntmps185
  go_wp2
  exact bodyPost_ret (v:=.tuple #[]) (by simp [results,Tryz.results185,go_sem]) rfl ⟨rfl,by rw [E.out];exact H.out,World.grownBy.refl _ _⟩
theorem want_failQ (e p why:Int) (f:Tok→Bool):((Rd.mk [] e p why).want f)=(emp,(Rd.mk [] e p why).failQ 3)∧¬ ((Rd.mk [] e p why).failQ 3).why=0:=by
 by_cases hw:why=0
 ·subst hw;exact ⟨rfl,by rw [failQ_nil];exact (by decide:¬ (3:Int)=0)⟩
 ·rw [failQ_why _ _ hw,want_why _ _ _ _ _ hw];exact ⟨rfl,hw⟩
theorem want_noQ (t:Tok) (l:List Tok) (e p why:Int) (f:Tok→Bool) (h:f t=false):((Rd.mk (t :: l) e p why).want f)=(emp,(Rd.mk (t :: l) e p why).failQ 2)∧¬ ((Rd.mk (t :: l) e p why).failQ 2).why=0:=by
 by_cases hw:why=0
 ·subst hw;rw [want_no _ _ _ _ _ h];exact ⟨rfl,by rw [failQ_cons];exact (by decide:¬ (2:Int)=0)⟩
 ·rw [failQ_why _ _ hw,want_why _ _ _ _ _ hw];exact ⟨rfl,hw⟩
set_option maxRecDepth 100000 in
set_option maxHeartbeats 4000000 in
theorem qr_want (r:Rd) (w0 w:World) (g fn:Nat) (cb:Array Value) (f:Tok→Bool) (h:RdAt w0 w g r)
  (eg:∀ args w,(callFunc fn args).run Tryz.prog w=.ok (.enter fn args) w)
  (hp:∀ t W,Below w.heap.size w W→Calls Tryz.prog fn (#[tkv t]++cb) W fun e w'=>e=.returned (.bool (f t))∧Below W.heap.size W w') :
  Calls Tryz.prog 238 #[.pointer (some ⟨g,0,none⟩),.func (.func fn) #[] cb] w fun e w'=>e=.returned (.string (r.want f).1)∧RdAt w0 w' g (r.want f).2∧w.grownBy w' (some g):=by
 have H:=Lib.hid h
 have HP:=Lib.hid hp
 have FA:=Lib.hid (fun y W (h:RdAt w0 W g r)=>qr_fail r w0 W g y h)
 obtain ⟨hlow,hbel,lv,hs,hblk⟩:=h
 obtain ⟨l,e,p,why⟩:=r
 have hg:=hblk.2.2
 have c0:=hblk.cell 0 lv rfl
 have c3:=hblk.cell 3 (.int .i64 why) rfl
 have f0:=hblk.2.1
 have HS:=Lib.hid hs
 have HB:=Lib.hid hblk
 have HBE:=Lib.hid hbel
 clear hp
 cases l with
 | nil =>
  obtain ⟨E,E2⟩:=want_failQ e p why f
  rw [E]
  have FA:=Lib.hid (fun W h=>FA.out 3 W h)
  obtain ⟨a,cap,rfl⟩:=hs.form
  have hsz:=hbel.size
  clear hs hblk hbel E
  generalize (Rd.mk [] e p why).failQ 3=r1 at E2 FA ⊢
  go_enter Tryz.func238,Tryz.ntmps238
  go_wp2_with fail
  refine (FA.out _ H.out).mono ?_
  rintro e1 w1 ⟨rfl,hr1,hg1⟩
  have HR1:=Lib.hid hr1
  obtain ⟨l1,e1,p1,y1⟩:=r1
  obtain ⟨_,_,lv1,_,hb1⟩:=hr1
  have d3:=hb1.cell 3 (.int .i64 y1) rfl
  have dy:(y1 != 0)=true:=by simpa using E2
  clear hb1 E2
  go_wp2
  go_ret
  exact ⟨rfl,HR1.out,hg1⟩
 | cons t tl =>
  obtain ⟨b,off,cap,rfl,hc,hm,hlt,hx⟩:=hs.pos (by simp)
  obtain ⟨t0,t1,t2⟩:=tk_head (Sl.cells_later hbel hlt hx)
  have HX:=Lib.hid hx
  have HL:=Lib.hid hc
  have hsz:=hbel.size
  have hbw:b < w.heap.size:=by omega
  have hbg:¬ b=g:=by omega
  have d1:decide ((0:Int) < (tl.length:Int)+1)=true:=by (rw [decide_eq_true_iff];omega)
  clear hs hblk hbel hx
  cases hf:f t with
  | false =>
   obtain ⟨E,E2⟩:=want_noQ t tl e p why f hf
   rw [E]
   clear E
   have FA:=Lib.hid (fun W h=>FA.out 2 W h)
   generalize (Rd.mk (t :: tl) e p why).failQ 2=r1 at E2 FA ⊢
   have HF:=Lib.hid hf
   clear hf
   go_enter Tryz.func238,Tryz.ntmps238
   go_wp2_with fail
   refine (HP.out t _ (Below.refl _ _)).mono ?_
   rintro e1 w1 ⟨rfl,hb1⟩
   rw [HF.out]
   have HG1:=Lib.hid (gb_of_below (r:=some g) hb1)
   have HT1:=Lib.hid (H.out.later hb1)
   clear hb1
   go_wp2_with fail
   refine (FA.out _ HT1.out).mono ?_
   rintro e2 w2 ⟨rfl,hr2,hg2⟩
   have HR2:=Lib.hid hr2
   have HG2:=Lib.hid (gb_trans HG1.out hg2)
   obtain ⟨l1,e1,p1,y1⟩:=r1
   obtain ⟨_,_,lv1,_,hb2⟩:=hr2
   have d3:=hb2.cell 3 (.int .i64 y1) rfl
   have dy:(y1 != 0)=true:=by simpa using E2
   clear hb2 E2 hg2
   go_wp2
   go_ret
   exact ⟨rfl,HR2.out,HG2.out⟩
  | true =>
   have HF:=Lib.hid hf
   by_cases hw:why=0
   ·subst hw
    have E:=Lib.hid (want_yes t tl e p f hf)
    clear hf
    go_enter Tryz.func238,Tryz.ntmps238
    go_wp2_with fail
    refine (HP.out t _ (Below.refl _ _)).mono ?_
    rintro e1 w1 ⟨rfl,hb1⟩
    rw [HF.out]
    have HG1:=Lib.hid (gb_of_below (r:=some g) hb1)
    have HT1:=Lib.hid (H.out.later hb1)
    have HB1:=Lib.hid (HB.out.below hb1)
    have t0:=(hb1.cell (p:=⟨b,off,none⟩) hbw).trans t0
    have t1:=(hb1.cell (p:=⟨b,off+1,none⟩) hbw).trans t1
    have t2:=(hb1.cell (p:=⟨b,off+2,none⟩) hbw).trans t2
    have c0:=HB1.out.cell 0 _ rfl
    have c3:=HB1.out.cell 3 _ rfl
    have f0:=HB1.out.2.1
    have hg:=HB1.out.2.2
    have hbw:b < w1.heap.size:=Nat.lt_of_lt_of_le hbw hb1.size
    have hsz1:=HT1.out.below.size
    clear hb1
    go_wp2
    ·go_ret
     rw [E.out]
     refine ⟨rfl,⟨hlow,?_,_,?_,((HB1.out.set 0 _ (by simp)).alloc _)⟩,gb_trans HG1.out (gb_alloc (gb_setCell (World.grownBy.refl _ _) _) _)⟩
     ·exact (HT1.out.below.setCell hlow _).alloc (by simpa [World.setCell] using hsz1) _
     ·obtain rfl:tl=[]:=List.eq_nil_of_length_eq_zero (by have:=HL.out;simp at this;omega)
      exact ⟨rfl,by simp [maxLen],.inr ⟨b,off,0,rfl,Nat.le_refl _,by simp [maxLen],hlt,fun j u hu=>by simp at hu⟩⟩
    ·go_ret
     rw [E.out]
     refine ⟨rfl,⟨hlow,?_,_,?_,((HB1.out.set 0 _ (by simp)).alloc _)⟩,gb_trans HG1.out (gb_alloc (gb_setCell (World.grownBy.refl _ _) _) _)⟩
     ·exact (HT1.out.below.setCell hlow _).alloc (by simpa [World.setCell] using hsz1) _
     ·exact Sl.tail HL.out hm hlt HX.out
   ·have d:(why != 0)=true:=by simp [hw]
    have E:=Lib.hid (want_why (t :: tl) e p why f hw)
    clear hw hf
    go_enter Tryz.func238,Tryz.ntmps238
    go_wp2_with fail
    refine (HP.out t _ (Below.refl _ _)).mono ?_
    rintro e1 w1 ⟨rfl,hb1⟩
    rw [HF.out]
    have HG1:=Lib.hid (gb_of_below (r:=some g) hb1)
    have HT1:=Lib.hid (H.out.later hb1)
    have c3:=(HB.out.below hb1).cell 3 _ rfl
    clear hb1
    go_wp2
    go_ret
    rw [E.out]
    exact ⟨rfl,HT1.out,HG1.out⟩

set_option maxRecDepth 100000 in
set_option maxHeartbeats 2000000 in
theorem qr_kind1 (t:Tok) (k:Int) (c:Nat) (w:World) (hc:w.cell? ⟨c,0,none⟩=some (.int .i64 k)) (hlt:c < w.heap.size) :
  Calls Tryz.prog 268 #[tkv t,.pointer (some ⟨c,0,none⟩)] w fun e w'=>e=.returned (.bool (decide (t.kind=k)))∧Below w.heap.size w w':=by
 have hd:(t.kind == k)=decide (t.kind=k):=by by_cases h:t.kind=k <;> simp [h]
 have HD:=Lib.hid hd
 clear hd
 go_enter Tryz.func268,Tryz.ntmps268
 go_wp2
 go_ret
 exact ⟨ret_b HD.out,(Below.refl _ _).alloc (Nat.le_refl _) _⟩
theorem take_want (r:Rd) (k:Int):r.take k=r.want (fun t=>decide (t.kind=k)):=by
 unfold Rd.take Rd.want
 cases r.l with
 | nil=>rfl
 | cons t l =>
  by_cases h:t.kind=k
  ·simp only [h,decide_true,if_true];rfl
  ·simp only [h,decide_false,Bool.false_eq_true,if_false]
set_option maxRecDepth 100000 in
set_option maxHeartbeats 2000000 in
theorem qr_kind (r:Rd) (w0 w:World) (g:Nat) (k:Int) (h:RdAt w0 w g r) :
  Calls Tryz.prog 241 #[.pointer (some ⟨g,0,none⟩),.int .i64 k] w fun e w'=>e=.returned (.string (r.take k).1)∧RdAt w0 w' g (r.take k).2∧w.grownBy w' (some g):=by
 have HW:=Lib.hid (qr_want r w0 (w.alloc (.cells #[.int .i64 k] 3)) g 268 #[.pointer (some ⟨w.heap.size,0,none⟩)] (fun t=>decide (t.kind=k)) (h.alloc _) (enters_of Tryz.func268 (by kernel_rfl) rfl)
  (fun t W hb=>qr_kind1 t k w.heap.size W (by
   rw [hb.cell (p:=⟨w.heap.size,0,none⟩) (by simp)]
   exact (Blk.new w #[.int .i64 k] 3).cell 0 _ rfl) (Nat.lt_of_lt_of_le (by simp) hb.size)))
 rw [← take_want] at HW
 generalize r.take k=res at HW ⊢
 clear h
 go_enter Tryz.func241,Tryz.ntmps241
 go_wp2_with fail
 refine HW.out.mono ?_
 rintro e w1 ⟨rfl,hr1,hg1⟩
 have HR:=Lib.hid hr1
 have HG:=Lib.hid (gb_trans (gb_alloc (World.grownBy.refl w _) _) hg1)
 clear hr1 hg1
 go_wp2
 go_ret
 exact ⟨rfl,HR.out,HG.out⟩
set_option maxRecDepth 100000 in
set_option maxHeartbeats 2000000 in
theorem qr_word1 (t:Tok) (v:Value) (ws:List ByteArray) (c:Nat) (w:World) (hc:w.cell? ⟨c,0,none⟩=some v) (hlt:c < w.heap.size) (hv:SlA w 1 v ws.length (strs ws)) :
  Calls Tryz.prog 239 #[tkv t,.pointer (some ⟨c,0,none⟩)] w fun e w'=>e=.returned (.bool (wordIn ws t))∧Below w.heap.size w w':=by
 have HC:=Lib.hid (fun W (h:Below w.heap.size w W)=>str_ContainsC v ws t.tx W (hv.below h))
 have HE:=Lib.hid (show wordIn ws t=(decide (t.kind=2) && hasB ws t.tx) from rfl)
 obtain ⟨a,cap,rfl⟩:=hv.form
 have HB:=Lib.hid (show Below w.heap.size w (w.alloc (.cells #[.int .i64 t.kind,.string ⟨t.text.toArray⟩,.int .i64 t.col] 164)) from (Below.refl _ _).alloc (Nat.le_refl _) _)
 clear hv
 by_cases h2:t.kind=2
 ·have d:(t.kind == 2)=true:=by simp [h2]
  have HE:=Lib.hid (show wordIn ws t=hasB ws t.tx by rw [HE.out,decide_eq_true h2];rfl)
  generalize wordIn ws t=res at *
  generalize hasB ws t.tx=hb at *
  clear h2
  go_enter Tryz.func239,Tryz.ntmps239
  go_wp2_with fail
  refine (HC.out _ HB.out).mono ?_
  rintro e w1 ⟨rfl,rfl⟩
  go_wp2
  go_ret
  exact ⟨ret_b HE.out.symm,HB.out⟩
 ·have d:(t.kind == 2)=false:=by simp [h2]
  have HE:=Lib.hid (show wordIn ws t=false by rw [HE.out,decide_eq_false h2];rfl)
  generalize wordIn ws t=res at *
  clear h2
  go_enter Tryz.func239,Tryz.ntmps239
  go_wp2
  go_ret
  exact ⟨ret_b HE.out.symm,HB.out⟩
set_option maxRecDepth 100000 in
set_option maxHeartbeats 2000000 in
theorem qr_word (r:Rd) (w0 w:World) (g:Nat) (v:Value) (ws:List ByteArray) (h:RdAt w0 w g r) (hv:SlA w 1 v ws.length (strs ws)) :
  Calls Tryz.prog 181 #[.pointer (some ⟨g,0,none⟩),v] w fun e w'=>e=.returned (.string (r.word ws).1)∧RdAt w0 w' g (r.word ws).2∧w.grownBy w' (some g):=by
 have HW:=Lib.hid (qr_want r w0 (w.alloc (.cells #[v] 27)) g 239 #[.pointer (some ⟨w.heap.size,0,none⟩)] (wordIn ws) (h.alloc _) (enters_of Tryz.func239 (by kernel_rfl) rfl)
  (fun t W hb=>qr_word1 t v ws w.heap.size W (by
   rw [hb.cell (p:=⟨w.heap.size,0,none⟩) (by simp)]
   exact (Blk.new w #[v] 27).cell 0 _ rfl) (Nat.lt_of_lt_of_le (by simp) hb.size) ((hv.below ((Below.refl _ _).alloc (Nat.le_refl _) _)).below hb)))
 rw [show r.want (wordIn ws)=r.word ws from rfl] at HW
 generalize r.word ws=res at HW ⊢
 obtain ⟨a,cap,rfl⟩:=hv.form
 clear h hv
 go_enter Tryz.func181,Tryz.ntmps181
 go_wp2_with fail
 refine HW.out.mono ?_
 rintro e w1 ⟨rfl,hr1,hg1⟩
 have HR:=Lib.hid hr1
 have HG:=Lib.hid (gb_trans (gb_alloc (World.grownBy.refl w _) _) hg1)
 clear hr1 hg1
 go_wp2
 go_ret
 exact ⟨rfl,HR.out,HG.out⟩
theorem qkind_pair {r:Rd} {k:Int} {x:ByteArray} {r':Rd} (h:r.take k=(x,r')) (w0 w:World) (g:Nat) (ha:RdAt w0 w g r) :
  Calls Tryz.prog 241 #[.pointer (some ⟨g,0,none⟩),.int .i64 k] w fun e w'=>e=.returned (.string x)∧RdAt w0 w' g r'∧w.grownBy w' (some g):=by
 have:=qr_kind r w0 w g k ha
 rw [h] at this
 exact this
set_option maxRecDepth 100000 in
set_option maxHeartbeats 1000000 in
theorem qr_role (r:Rd) (w0 w:World) (g:Nat) (h:RdAt w0 w g r) :
  Calls Tryz.prog 182 #[.pointer (some ⟨g,0,none⟩)] w fun e w'=>e=.returned (rv r.role.1)∧RdAt w0 w' g r.role.2∧w.grownBy w' (some g):=by
 have hlt:=h.lt
 have hlow:=h.below.size
 have E:=Lib.hid (show r.role=(⟨(r.take 1).1,(((r.take 1).2.take 3).2.take 2).1⟩,(((r.take 1).2.take 3).2.take 2).2) from rfl)
 cases h1:r.take 1 with | mk x1 r1 =>
 rw [h1] at E;dsimp only at E
 cases h2:r1.take 3 with | mk x2 r2 =>
 rw [h2] at E;dsimp only at E
 cases h3:r2.take 2 with | mk x3 r3 =>
 rw [h3] at E;dsimp only at E
 have T1:=Lib.hid (qkind_pair h1 w0)
 have T2:=Lib.hid (qkind_pair h2 w0)
 have T3:=Lib.hid (qkind_pair h3 w0)
 clear h1 h2 h3
 have hne:some w.heap.size≠some g:=fun e=>by cases e;omega
 have hng:g≠w.heap.size:=fun e=>by omega
 go_enter Tryz.func182,Tryz.ntmps182
 go_wp2_with (first
  | (go_at_call 241;(with_reducible refine (T1.out _ g ?_).mono ?_);exact h.alloc _;rintro e w1 ⟨rfl,hr1,hg1⟩;have HB1:=(Blk.new _ _ _).grown hg1 hne;obtain ⟨ca,fa,za⟩:=id HB1)
  | (go_at_call 241;(with_reducible refine (T2.out _ g ?_).mono ?_);exact hr1.set _ hng hlow;rintro e w2 ⟨rfl,hr2,hg2⟩;have HB2:=(HB1.set 0 (.string x1) Nat.zero_lt_two).grown hg2 hne;obtain ⟨ca2,fa2,za2⟩:=id HB2)
  | (go_at_call 241;(with_reducible refine (T3.out _ g ?_).mono ?_);exact hr2;rintro e w3 ⟨rfl,hr3,hg3⟩;have HB3:=HB2.grown hg3 hne;obtain ⟨ca3,fa3,za3⟩:=id HB3))
 refine bodyPost_ret (v:=rv ⟨x1,x3⟩) (by simp [results,Tryz.results182,go_sem,ca3]) rfl ⟨by rw [E.out],?_,?_⟩
 ·rw [E.out]
  exact ((hr3.set _ hng hlow).set _ hng hlow).set _ hng hlow
 ·refine gb_new (gb_new (gb_new ?_ (Nat.le_refl _) _) (Nat.le_refl _) _) (Nat.le_refl _) _
  exact gb_trans (gb_trans (gb_new (gb_trans (gb_alloc (World.grownBy.refl _ _) _) hg1) (Nat.le_refl _) _) hg2) hg3
end
section
open Go.RowKit Go.Shelf

def firstW (k:Int):ByteArray:=if k=1 then wHas else if k=2 then wHave else if k=3 then wWithin else if k=4 then wBe else if k=5 then wApart else wIn
theorem six_of_int {k:Int} (h1:1≤k) (h6:k≤6):k=1∨k=2∨k=3∨k=4∨k=5∨k=6:=by omega
theorem wordsL_one {k:Int} (h1:1≤k) (h6:k≤6) (h4:¬ k=4):wordsL k=[firstW k]:=by
 rcases six_of_int h1 h6 with rfl | rfl | rfl | rfl | rfl | rfl <;> first | rfl | exact absurd rfl h4
theorem kindW_first {k:Int} (h1:1≤k) (h6:k≤6):kindW (firstW k)=k:=by
 rcases six_of_int h1 h6 with rfl | rfl | rfl | rfl | rfl | rfl <;> decide
theorem kindW_none {s:ByteArray} (h:∀ i:Int,1≤i→i < 7→¬ firstW i=s):kindW s=0:=by
 have n:∀ i:Int,1≤i→i < 7→¬ s=firstW i:=fun i h1 h7 e=>h i h1 h7 e.symm
 unfold kindW
 rw [if_neg (show ¬ s=wHas from n 1 (by decide) (by decide)),if_neg (show ¬ s=wHave from n 2 (by decide) (by decide)),if_neg (show ¬ s=wWithin from n 3 (by decide) (by decide)),if_neg (show ¬ s=wBe from n 4 (by decide) (by decide)),if_neg (show ¬ s=wApart from n 5 (by decide) (by decide)),if_neg (show ¬ s=wIn from n 6 (by decide) (by decide))]
def WordsR (k:Int) (w:World) (e:Ending) (w':World):Prop:=∃ b:Nat,w.heap.size≤b∧e=.returned (.slice (some ⟨b,0,none⟩) (wordsL k).length (wordsL k).length)∧w'.heap[b]? = some (.cells (strs (wordsL k)).toArray 9 (0,0))∧Below w.heap.size w w'
set_option maxRecDepth 100000 in
set_option maxHeartbeats 2000000 in
theorem query_Words (q:Qv) (h1:1≤q.k) (h6:q.k≤6) (w:World):Calls Tryz.prog 175 #[qv q] w fun e w'=>WordsR q.k w e w':=by
 obtain ⟨k,⟨a1,a2⟩,⟨b1,b2⟩,v⟩:=q
 dsimp only at h1 h6
 have fin:∀ (cs:Array Value),Below w.heap.size w ((w.alloc (.cells #[.int .i64 k,.string a1,.string a2,.string b1,.string b2,v] 83)).alloc (.cells cs 9)):=fun cs=>((Below.refl _ _).alloc (Nat.le_refl _) _).alloc (by simp) _
 have new:∀ (cs:Array Value),((w.alloc (.cells #[.int .i64 k,.string a1,.string a2,.string b1,.string b2,v] 83)).alloc (.cells cs 9)).heap[w.heap.size+1]? = some (.cells cs 9 (0,0)):=fun cs=>by
  have:=heap_alloc_new (w.alloc (.cells #[.int .i64 k,.string a1,.string a2,.string b1,.string b2,v] 83)) (.cells cs 9)
  simpa using this
 have FIN:=Lib.hid fin
 have NEW:=Lib.hid new
 clear fin new
 rcases six_of_int h1 h6 with rfl | rfl | rfl | rfl | rfl | rfl
 all_goals (
  go_enter Tryz.func175,Tryz.ntmps175
  go_wp2
  go_ret
  exact ⟨w.heap.size+1,by omega,rfl,NEW.out _,FIN.out _⟩)
set_option maxRecDepth 100000 in
set_option maxHeartbeats 8000000 in
theorem qr_ask (r:Rd) (u:Bool) (w0 w:World) (g:Nat) (h:RdAt w0 w g r) :
  Calls Tryz.prog 183 #[.pointer (some ⟨g,0,none⟩),.bool u] w fun e w'=>e=.returned (.int .i64 (r.ask u).1)∧RdAt w0 w' g (r.ask u).2∧w.grownBy w' (some g):=by
 cases u with
 | false =>
  obtain ⟨W,hW⟩:∃ W,W=w.alloc (.cells #[.string wHave,.string wBe] 9):=⟨_,rfl⟩
  have hb1:Below w.heap.size w W:=by rw [hW];exact (Below.refl _ _).alloc (Nat.le_refl _) _
  have HWD:=Lib.hid (qr_word r w0 W g (.slice (some ⟨w.heap.size,0,none⟩) 2 2) [wHave,wBe] (h.later hb1) (by rw [hW];exact (Sl.new1 w [.string wHave,.string wBe] 9 w.heap.size 2 rfl rfl (by decide)).a))
  have GB:=Lib.hid (gb_of_below (r:=some g) hb1)
  clear h hb1
  subst hW
  go_enter Tryz.func183,Tryz.ntmps183
  go_wp2_with fail
  refine HWD.out.mono ?_
  rintro e w1 ⟨rfl,hr1,hg1⟩
  have HR:=Lib.hid hr1
  have HG:=Lib.hid (gb_trans GB.out hg1)
  clear hr1 hg1 HWD GB
  have RES:=Lib.hid (show (r.ask false)=(kindW (r.word (askW false)).1,if kindW (r.word (askW false)).1=4 then ((r.word (askW false)).2.word [wEmpty]).2 else (r.word (askW false)).2) from rfl)
  rw [show r.word [wHave,wBe]=r.word (askW false) from rfl] at HR ⊢
  generalize r.word (askW false)=p at HR RES ⊢
  obtain ⟨s,r1⟩:=p
  dsimp only at HR RES ⊢
  go_wp2_with fail
  go_loopw [7] (fun i wr => ∃ j:Int,1≤j∧j≤7∧i=.int .i64 j∧Hid (RdAt w0 wr g r1)∧Hid (w.grownBy wr (some g))∧Hid (∀ i:Int,1≤i→i < j→¬ firstW i=s)) (fun i _=>7 - (intOf i).toNat)
  case atStart=>exact ⟨1,by omega,by omega,rfl,HR,HG,Lib.hid (fun i h1 h2=>by omega)⟩
  case round =>
   clear HR HG
   obtain ⟨j,hj1,hj7,rfl,HR,HG,HN⟩:=hrel
   by_cases hj:j≤6
   ·have HW:=Lib.hid (query_Words ⟨j,noR,noR,.slice none 0 0⟩ hj1 hj wr)
    go_wp2_with fail
    refine HW.out.mono ?_
    rintro e w2 ⟨b,hb,rfl,hcell,hbel⟩
    have HR2:=Lib.hid (HR.out.later hbel)
    have HG2:=Lib.hid (gb_trans HG.out (gb_of_below (r:=some g) hbel))
    have hlt2:b < w2.heap.size:=(Array.getElem?_eq_some_iff.1 hcell).1
    clear HW hbel
    by_cases h4:j=4
    ·subst h4
     have q0:w2.cell? ⟨b,0,none⟩=some (.string (firstW 4)):=by rw [cell_of_row _ b 0 _ _ _ hcell];rfl
     have q1:w2.cell? ⟨b,1,none⟩=some (.string wEmpty):=by rw [cell_of_row _ b 1 _ _ _ hcell];rfl
     rw [show (wordsL 4).length=2 from rfl]
     clear hcell
     by_cases he:firstW 4=s
     ·have R2:=Lib.hid (show r.ask false=(4,(r1.word [wEmpty]).2) by rw [RES.out,← he,kindW_first (by decide) (by decide)];rfl)
      have d:((firstW 4).toList == s.toList)=true:=by rw [beq_str,he];exact decide_eq_true rfl
      clear he RES
      go_wp2_with fail
      go_loopw [32] (fun i wr=>(i=.int .i64 0∧wr=w2)∨(i=.int .i64 1∧RdAt w0 wr g (r1.word [wEmpty]).2∧w.grownBy wr (some g))) (fun i _=>2 - (intOf i).toNat)
      case atStart=>exact .inl ⟨rfl,rfl⟩
      case round =>
       rcases hrel with ⟨rfl,rfl⟩ | ⟨rfl,hr,hgb⟩
       ·have HB:=Lib.hid (show Below wr.heap.size wr (wr.alloc (.cells #[.string wEmpty] 9)) from (Below.refl _ _).alloc (Nat.le_refl _) _)
        have HWD:=Lib.hid (qr_word r1 w0 (wr.alloc (.cells #[.string wEmpty] 9)) g (.slice (some ⟨wr.heap.size,0,none⟩) 1 1) [wEmpty] (HR2.out.later HB.out) (Sl.new1 wr [.string wEmpty] 9 wr.heap.size 1 rfl rfl (by decide)).a)
        go_wp2_with fail
        refine HWD.out.mono ?_
        rintro e w3 ⟨rfl,hr3,hg3⟩
        have HR3:=Lib.hid hr3
        have HG3:=Lib.hid (gb_trans (gb_trans HG2.out (gb_of_below (r:=some g) HB.out)) hg3)
        clear hr3 hg3 HWD
        go_wp2
        exact ⟨.inr ⟨rfl,HR3.out,HG3.out⟩,by simp [intOf]⟩
       ·have HR3:=Lib.hid hr
        have HG3:=Lib.hid hgb
        clear hr hgb
        go_wp2
        go_ret
        rw [R2.out]
        exact ⟨rfl,HR3.out,HG3.out⟩
     ·have d:((firstW 4).toList == s.toList)=false:=by rw [beq_str];exact decide_eq_false he
      have HN2:=Lib.hid (fun (i:Int) (h1:1≤i) (h2:i < 5)=>show ¬ firstW i=s by
       by_cases h:i < 4
       ·exact HN.out i h1 h
       ·obtain rfl:i=4:=by omega
        exact he)
      clear he
      go_wp2
      exact ⟨⟨5,by omega,by omega,rfl,HR2,HG2,HN2⟩,by simp [intOf]⟩
    ·have q0:w2.cell? ⟨b,0,none⟩=some (.string (firstW j)):=by rw [cell_of_row _ b 0 _ _ _ hcell];rw [wordsL_one hj1 hj h4];rfl
     rw [show (wordsL j).length=1 by rw [wordsL_one hj1 hj h4];rfl]
     clear hcell
     have KF:=Lib.hid (kindW_first hj1 hj)
     by_cases he:firstW j=s
     ·have R2:=Lib.hid (show r.ask false=(j,r1) by rw [RES.out,← he,KF.out,if_neg h4])
      have d:((firstW j).toList == s.toList)=true:=by rw [beq_str,he];exact decide_eq_true rfl
      clear he RES KF
      generalize firstW j=fw at *
      go_wp2_with fail
      go_loopw [32] (fun i wr=>i=.int .i64 0∧wr=w2) (fun i _=>0)
      case atStart=>exact ⟨rfl,rfl⟩
      case round =>
       obtain ⟨rfl,rfl⟩:=hrel
       go_wp2
       go_ret
       rw [R2.out]
       exact ⟨rfl,HR2.out,HG2.out⟩
     ·have d:((firstW j).toList == s.toList)=false:=by rw [beq_str];exact decide_eq_false he
      have HN2:=Lib.hid (fun (i:Int) (h1:1≤i) (h2:i < j+1)=>show ¬ firstW i=s by
       by_cases h:i < j
       ·exact HN.out i h1 h
       ·obtain rfl:i=j:=by omega
        exact he)
      clear he KF
      generalize firstW j=fw at q0 d
      go_wp2
      exact ⟨⟨j+1,by omega,by omega,rfl,HR2,HG2,HN2⟩,by simp [intOf];omega⟩
   ·obtain rfl:j=7:=by omega
    have R2:=Lib.hid (show r.ask false=(0,r1) by rw [RES.out,kindW_none HN.out];rfl)
    go_wp2
    go_ret
    rw [R2.out]
    exact ⟨rfl,HR.out,HG.out⟩
 | true =>
  obtain ⟨W0,hW0⟩:∃ W,W=w.alloc (.cells #[.string wHave,.string wBe] 9):=⟨_,rfl⟩
  obtain ⟨W,hW⟩:∃ W,W=W0.alloc (.cells #[.string wHas,.string wWithin,.string wApart,.string wIn] 9):=⟨_,rfl⟩
  have hb0:Below w.heap.size w W0:=by rw [hW0];exact (Below.refl _ _).alloc (Nat.le_refl _) _
  have hb1:Below w.heap.size w W:=by rw [hW];exact hb0.alloc hb0.size _
  have hs0:W0.heap.size=w.heap.size+1:=by rw [hW0];simp
  have HWD:=Lib.hid (qr_word r w0 W g (.slice (some ⟨w.heap.size+1,0,none⟩) 4 4) [wHas,wWithin,wApart,wIn] (h.later hb1) (by rw [hW];exact (Sl.new1 W0 [.string wHas,.string wWithin,.string wApart,.string wIn] 9 (w.heap.size+1) 4 hs0.symm rfl (by decide)).a))
  have GB:=Lib.hid (gb_of_below (r:=some g) hb1)
  clear h hb1 hb0 hs0
  subst hW hW0
  go_enter Tryz.func183,Tryz.ntmps183
  go_wp2_with fail
  refine HWD.out.mono ?_
  rintro e w1 ⟨rfl,hr1,hg1⟩
  have HR:=Lib.hid hr1
  have HG:=Lib.hid (gb_trans GB.out hg1)
  clear hr1 hg1 HWD GB
  have RES:=Lib.hid (show (r.ask true)=(kindW (r.word (askW true)).1,if kindW (r.word (askW true)).1=4 then ((r.word (askW true)).2.word [wEmpty]).2 else (r.word (askW true)).2) from rfl)
  rw [show r.word [wHas,wWithin,wApart,wIn]=r.word (askW true) from rfl] at HR ⊢
  generalize r.word (askW true)=p at HR RES ⊢
  obtain ⟨s,r1⟩:=p
  dsimp only at HR RES ⊢
  go_wp2_with fail
  go_loopw [7] (fun i wr => ∃ j:Int,1≤j∧j≤7∧i=.int .i64 j∧Hid (RdAt w0 wr g r1)∧Hid (w.grownBy wr (some g))∧Hid (∀ i:Int,1≤i→i < j→¬ firstW i=s)) (fun i _=>7 - (intOf i).toNat)
  case atStart=>exact ⟨1,by omega,by omega,rfl,HR,HG,Lib.hid (fun i h1 h2=>by omega)⟩
  case round =>
   clear HR HG
   obtain ⟨j,hj1,hj7,rfl,HR,HG,HN⟩:=hrel
   by_cases hj:j≤6
   ·have HW:=Lib.hid (query_Words ⟨j,noR,noR,.slice none 0 0⟩ hj1 hj wr)
    go_wp2_with fail
    refine HW.out.mono ?_
    rintro e w2 ⟨b,hb,rfl,hcell,hbel⟩
    have HR2:=Lib.hid (HR.out.later hbel)
    have HG2:=Lib.hid (gb_trans HG.out (gb_of_below (r:=some g) hbel))
    have hlt2:b < w2.heap.size:=(Array.getElem?_eq_some_iff.1 hcell).1
    clear HW hbel
    by_cases h4:j=4
    ·subst h4
     have q0:w2.cell? ⟨b,0,none⟩=some (.string (firstW 4)):=by rw [cell_of_row _ b 0 _ _ _ hcell];rfl
     have q1:w2.cell? ⟨b,1,none⟩=some (.string wEmpty):=by rw [cell_of_row _ b 1 _ _ _ hcell];rfl
     rw [show (wordsL 4).length=2 from rfl]
     clear hcell
     by_cases he:firstW 4=s
     ·have R2:=Lib.hid (show r.ask true=(4,(r1.word [wEmpty]).2) by rw [RES.out,← he,kindW_first (by decide) (by decide)];rfl)
      have d:((firstW 4).toList == s.toList)=true:=by rw [beq_str,he];exact decide_eq_true rfl
      clear he RES
      go_wp2_with fail
      go_loopw [32] (fun i wr=>(i=.int .i64 0∧wr=w2)∨(i=.int .i64 1∧RdAt w0 wr g (r1.word [wEmpty]).2∧w.grownBy wr (some g))) (fun i _=>2 - (intOf i).toNat)
      case atStart=>exact .inl ⟨rfl,rfl⟩
      case round =>
       rcases hrel with ⟨rfl,rfl⟩ | ⟨rfl,hr,hgb⟩
       ·have HB:=Lib.hid (show Below wr.heap.size wr (wr.alloc (.cells #[.string wEmpty] 9)) from (Below.refl _ _).alloc (Nat.le_refl _) _)
        have HWD:=Lib.hid (qr_word r1 w0 (wr.alloc (.cells #[.string wEmpty] 9)) g (.slice (some ⟨wr.heap.size,0,none⟩) 1 1) [wEmpty] (HR2.out.later HB.out) (Sl.new1 wr [.string wEmpty] 9 wr.heap.size 1 rfl rfl (by decide)).a)
        go_wp2_with fail
        refine HWD.out.mono ?_
        rintro e w3 ⟨rfl,hr3,hg3⟩
        have HR3:=Lib.hid hr3
        have HG3:=Lib.hid (gb_trans (gb_trans HG2.out (gb_of_below (r:=some g) HB.out)) hg3)
        clear hr3 hg3 HWD
        go_wp2
        exact ⟨.inr ⟨rfl,HR3.out,HG3.out⟩,by simp [intOf]⟩
       ·have HR3:=Lib.hid hr
        have HG3:=Lib.hid hgb
        clear hr hgb
        go_wp2
        go_ret
        rw [R2.out]
        exact ⟨rfl,HR3.out,HG3.out⟩
     ·have d:((firstW 4).toList == s.toList)=false:=by rw [beq_str];exact decide_eq_false he
      have HN2:=Lib.hid (fun (i:Int) (h1:1≤i) (h2:i < 5)=>show ¬ firstW i=s by
       by_cases h:i < 4
       ·exact HN.out i h1 h
       ·obtain rfl:i=4:=by omega
        exact he)
      clear he
      go_wp2
      exact ⟨⟨5,by omega,by omega,rfl,HR2,HG2,HN2⟩,by simp [intOf]⟩
    ·have q0:w2.cell? ⟨b,0,none⟩=some (.string (firstW j)):=by rw [cell_of_row _ b 0 _ _ _ hcell];rw [wordsL_one hj1 hj h4];rfl
     rw [show (wordsL j).length=1 by rw [wordsL_one hj1 hj h4];rfl]
     clear hcell
     have KF:=Lib.hid (kindW_first hj1 hj)
     by_cases he:firstW j=s
     ·have R2:=Lib.hid (show r.ask true=(j,r1) by rw [RES.out,← he,KF.out,if_neg h4])
      have d:((firstW j).toList == s.toList)=true:=by rw [beq_str,he];exact decide_eq_true rfl
      clear he RES KF
      generalize firstW j=fw at *
      go_wp2_with fail
      go_loopw [32] (fun i wr=>i=.int .i64 0∧wr=w2) (fun i _=>0)
      case atStart=>exact ⟨rfl,rfl⟩
      case round =>
       obtain ⟨rfl,rfl⟩:=hrel
       go_wp2
       go_ret
       rw [R2.out]
       exact ⟨rfl,HR2.out,HG2.out⟩
     ·have d:((firstW j).toList == s.toList)=false:=by rw [beq_str];exact decide_eq_false he
      have HN2:=Lib.hid (fun (i:Int) (h1:1≤i) (h2:i < j+1)=>show ¬ firstW i=s by
       by_cases h:i < j
       ·exact HN.out i h1 h
       ·obtain rfl:i=j:=by omega
        exact he)
      clear he KF
      generalize firstW j=fw at q0 d
      go_wp2
      exact ⟨⟨j+1,by omega,by omega,rfl,HR2,HG2,HN2⟩,by simp [intOf];omega⟩
   ·obtain rfl:j=7:=by omega
    have R2:=Lib.hid (show r.ask true=(0,r1) by rw [RES.out,kindW_none HN.out];rfl)
    go_wp2
    go_ret
    rw [R2.out]
    exact ⟨rfl,HR.out,HG.out⟩
end
end Go.Proofs.YtomhekohcadijaaGreatDoor
