/- Parts: QRefParse RefParse2 RlSortO PolRef -/
import Derived.Test.YtomhekohcadijaaGreatDoorPart16
import Derived.Test.YtomhekohcadijaaGreatDoorPart13
import Derived.Test.YtomhekohcadijaaGreatDoorPart12
import Derived.Deep.CutBlock
import Derived.Test.YtomhekohcadijaaGreatDoorPart14
import Derived.Test.YtomhekohcadijaaGreatDoorPart3
import Derived.Test.YtomhekohcadijaaGreatDoorPart4
import Derived.Deep.RegionHeld3
import Derived.Test.YtomhekohcadijaaGreatDoorPart7
namespace Go.Proofs.YtomhekohcadijaaGreatDoor
section
open Go.RowKit Go.Shelf

def bestTo (l:List Tok):Nat→Nat
 | 0=>0
 | j+1=>max (bestTo l j) (fitQ ((j:Int)+1) 0 l)
theorem bestTo_six (l:List Tok):bestTo l 6=bestQ l:=by
 simp [bestTo,bestQ]
theorem fit_le (k:Int):∀ (l:List Tok) (i:Nat),fitQ k i l≤l.length
 | [],i=>by rw [fitQ_nil];exact Nat.le_refl _
 | t :: l,i=>by
  rw [fitQ_cons]
  have:=fit_le k l (i+1)
  split
  ·rw [List.length_cons];omega
  ·exact Nat.zero_le _
theorem bestTo_le (l:List Tok):∀ j,bestTo l j≤l.length
 | 0=>Nat.zero_le _
 | j+1=>by
  have h1:=bestTo_le l j
  have h2:=fit_le ((j:Int)+1) l 0
  show max _ _≤_
  omega
theorem refQ_at (l:List Tok) (e:Int) (j:Nat) (hj:j < 6) (hn:∀ i:Nat,i < j→¬ fitQ ((i:Int)+1) 0 l=frontQ ((i:Int)+1)) (hf:fitQ ((j:Int)+1) 0 l=frontQ ((j:Int)+1)):refQ l e=kindQ ((j:Int)+1) l e:=by
 have n0:0 < j→¬ fitQ 1 0 l=5:=fun h=>hn 0 h
 have n1:1 < j→¬ fitQ 2 0 l=5:=fun h=>hn 1 h
 have n2:2 < j→¬ fitQ 3 0 l=5:=fun h=>hn 2 h
 have n3:3 < j→¬ fitQ 4 0 l=6:=fun h=>hn 3 h
 have n4:4 < j→¬ fitQ 5 0 l=8:=fun h=>hn 4 h
 unfold refQ
 rcases (show j=0∨j=1∨j=2∨j=3∨j=4∨j=5 by omega) with rfl | rfl | rfl | rfl | rfl | rfl
 ·rw [if_pos (show fitQ 1 0 l=5 from hf)];rfl
 ·rw [if_neg (n0 (by omega)),if_pos (show fitQ 2 0 l=5 from hf)];rfl
 ·rw [if_neg (n0 (by omega)),if_neg (n1 (by omega)),if_pos (show fitQ 3 0 l=5 from hf)];rfl
 ·rw [if_neg (n0 (by omega)),if_neg (n1 (by omega)),if_neg (n2 (by omega)),if_pos (show fitQ 4 0 l=6 from hf)];rfl
 ·rw [if_neg (n0 (by omega)),if_neg (n1 (by omega)),if_neg (n2 (by omega)),if_neg (n3 (by omega)),if_pos (show fitQ 5 0 l=8 from hf)];rfl
 ·rw [if_neg (n0 (by omega)),if_neg (n1 (by omega)),if_neg (n2 (by omega)),if_neg (n3 (by omega)),if_neg (n4 (by omega)),if_pos (show fitQ 6 0 l=8 from hf)];rfl
theorem refQ_none (l:List Tok) (e:Int) (hn:∀ i:Nat,i < 6→¬ fitQ ((i:Int)+1) 0 l=frontQ ((i:Int)+1)):refQ l e=endQ l e:=by
 unfold refQ
 rw [if_neg (show ¬ fitQ 1 0 l=5 from hn 0 (by omega)),if_neg (show ¬ fitQ 2 0 l=5 from hn 1 (by omega)),if_neg (show ¬ fitQ 3 0 l=5 from hn 2 (by omega)),if_neg (show ¬ fitQ 4 0 l=6 from hn 3 (by omega)),if_neg (show ¬ fitQ 5 0 l=8 from hn 4 (by omega)),if_neg (show ¬ fitQ 6 0 l=8 from hn 5 (by omega))]
theorem fit_front (k:Int):∀ (l:List Tok) (i:Nat),i≤frontQ k→i+fitQ k i l≤frontQ k
 | [],i,h=>by rw [fitQ_nil];exact h
 | t :: l,i,h=>by
  rw [fitQ_cons]
  by_cases hg:i < frontQ k∧goesQ k i t=true
  ·rw [if_pos hg]
   have:=fit_front k l (i+1) hg.1
   omega
  ·rw [if_neg hg];exact h
theorem fit_step {k:Int} {l:List Tok} {m:Nat} (hm:m < l.length) (hf:m < frontQ k) (hg:goesQ k m l[m]=true):fitQ k m (l.drop m)=fitQ k (m+1) (l.drop (m+1))+1:=by
 rw [List.drop_eq_getElem_cons hm,fitQ_cons,if_pos ⟨hf,hg⟩]
theorem fit_stop {k:Int} {l:List Tok} {m:Nat} (h:∀ hm:m < l.length,¬ (m < frontQ k∧goesQ k m l[m]=true)):fitQ k m (l.drop m)=0:=by
 by_cases hm:m < l.length
 ·rw [List.drop_eq_getElem_cons hm,fitQ_cons,if_neg (h hm)]
 ·rw [List.drop_eq_nil_of_le (by omega),fitQ_nil]
theorem tok_cells {w:World} {b off:Nat} {l:List Tok} (h:∀ j u,(l.flatMap Tok.cells)[j]? = some u→w.cell? ⟨b,off+j,none⟩=some u) (k:Nat) (hk:k < l.length) :
  w.cell? ⟨b,off+k * 3,none⟩=some (.int .i64 l[k].kind)∧w.cell? ⟨b,off+k * 3+1,none⟩=some (.string ⟨l[k].text.toArray⟩)∧w.cell? ⟨b,off+k * 3+2,none⟩=some (.int .i64 l[k].col):=tok_kind h k hk
theorem txQ_at {l:List Tok} {i:Nat} (h:i < l.length):txQ l i=⟨l[i].text.toArray⟩:=by
 unfold txQ
 rw [List.getD_eq_getElem?_getD,List.getElem?_eq_getElem h]
 rfl
set_option maxRecDepth 100000 in
set_option maxHeartbeats 16000000 in
theorem ref4_ParseO (s:ByteArray) (w:World) (hs:s.size < 4294967281) :
  Calls Tryz.prog 130 #[.string s] w fun e w'=>ParseO (parseQ s) w e w':=by
 have E:=Lib.hid (show parseQ s=parseQT (tokens (bl s)) (endOf s) from rfl)
 have EN:=Lib.hid (fun W=>ref3_End s W (by omega))
 rw [show endOf' s=endOf s from rfl] at EN
 have HTL:=Lib.hid (tokens_len (bl s))
 generalize endOf s=en at E EN
 generalize parseQ s=res at E ⊢
 go_enter Tryz.func130,Tryz.ntmps130
 go_wp2_with fail
 refine (ref2_Tokens_any s _ (by omega)).mono ?_
 rintro e w1 ⟨va,rfl,hown1,hb1⟩
 obtain ⟨sa,sc,rfl⟩:=own_form hown1
 have hsl1:=Lib.hid (Sl.of_own hown1)
 have HOT:=Lib.hid (fun (b off:Nat) (h:sa=some ⟨b,off,none⟩)=>show ¬ b=w.heap.size by
  have:=(hown1.lt b (by rw [h];rfl)).1
  simp at this
  omega)
 have HD:=Lib.hid (keep1 hb1)
 have HB:=Lib.hid (((Below.refl _ _).alloc (Nat.le_refl _) _).trans (hb1.mono (by simp)):Below w.heap.size w w1)
 clear hown1 hb1
 generalize tokens (bl s)=t at hsl1 E HTL ⊢
 obtain ⟨l,i,y⟩:=t
 dsimp only at hsl1 E HTL ⊢
 have hD1:=HD.out.2.2
 by_cases hy:y=0
 rotate_left
 ·have E:=Lib.hid (E.out.trans (show parseQT (l,i,y) en=(noQd,i,y) from if_pos hy))
  have d:(y != 0)=true:=by simp [hy]
  clear hy
  obtain ⟨ca,fa,za⟩:=HD.out
  go_wp2
  refine bodyPost_ret (v:=.tuple #[qdv noQd (.slice none 0 0),.int .i64 i,.int .i64 y]) (by simp [results,Tryz.results130,go_sem,ca,noQd,noR]) rfl ⟨_,by rw [E.out],by rw [E.out];exact World.ownsRow_nil _ _ _ _,?_⟩
  have hb4:=HB.out
  (repeat' (first | with_reducible exact Below.refl _ _ | with_reducible assumption | with_reducible (refine Below.setCell ?_ ?_ _) | with_reducible (refine Below.alloc ?_ ?_ _) | with_reducible (refine below_drew ?_) | with_reducible (refine below_drewN ?_ _) | with_reducible (refine Below.trans ?_ (Below.mono (by assumption) ?_)) | omega | (simp;done) | (simp;omega)))
 subst hy
 have E:=Lib.hid (E.out.trans ((show parseQT (l,i,0) en=readQ l en from if_neg (fun h=>h rfl)).trans (law_query l en)))
 have hll:=HTL.out
 go_wp2_with fail
 go_loopw [8,9] (fun vb vk wr => ∃ j:Nat,j≤6∧vk=.int .i64 ((j:Int)+1)∧vb=.int .i64 (bestTo l j:Nat)∧Hid (Below w1.heap.size w1 wr)∧Hid (∀ i:Nat,i < j→¬ fitQ ((i:Int)+1) 0 l=frontQ ((i:Int)+1))) (fun _ vk _=>8 - (intOf vk).toNat)
 case atStart=>exact ⟨0,by omega,rfl,rfl,Lib.hid (Below.refl _ _),Lib.hid (fun i h=>by omega)⟩
 case round =>
  obtain ⟨j,hj,rfl,rfl,HW,HN⟩:=hrel
  have hbt:=bestTo_le l j
  by_cases hj6:j < 6
  ·obtain ⟨k,hk⟩:∃ k:Int,k=(j:Int)+1:=⟨_,rfl⟩
   have hk1:1≤k:=by omega
   have hk6:k≤6:=by omega
   rw [← hk]
   have HK:=Lib.hid hk
   clear hk
   have dk:decide (k≤6)=true:=decide_eq_true hk6
   have HF:=Lib.hid (fun W=>ref4_front k W)
   have hfr:frontQ k≤8:=by unfold frontQ;split;decide;split <;> decide
   have hfr5:5≤frontQ k:=by unfold frontQ;split;decide;split <;> decide
   go_upto_block 2 with fail
   go_cut [10] from 27 to 47 (fun s10 wx => ∃ V:World,V=wx∧s10=.int .i64 (fitQ k 0 l:Nat)∧Hid (Below w1.heap.size w1 V))
   case first =>
    go_wp2_with fail
    go_loopw [10] (fun vn wr2 => ∃ m:Nat,m≤l.length∧m≤frontQ k∧vn=.int .i64 m∧Hid (Below w1.heap.size w1 wr2)∧Hid (fitQ k 0 l=m+fitQ k m (l.drop m))) (fun vn _=>300 - (intOf vn).toNat)
    case atStart=>exact ⟨0,Nat.zero_le _,Nat.zero_le _,rfl,HW,Lib.hid (by simp)⟩
    case round =>
     clear HW
     obtain ⟨m,hm,hmf,rfl,HW,HM⟩:=hrel
     by_cases hml:m < l.length
     ·have dl:decide ((m:Int) < (l.length:Int))=true:=by (rw [decide_eq_true_iff];omega)
      by_cases hmk:m < frontQ k
      ·have df:decide ((m:Int) < (frontQ k:Int))=true:=by (rw [decide_eq_true_iff];omega)
       obtain ⟨b,off,cap,he,hc,hmx,hlt,hx⟩:=hsl1.out.pos (by omega)
       simp only [Value.slice.injEq,true_and] at he
       obtain ⟨rfl,rfl⟩:=he
       obtain ⟨q0,q1,q2⟩:=tok_cells hx m hml
       have q0:=(HW.out.cell (p:=⟨b,off+m * 3,none⟩) hlt).trans q0
       have q1:=(HW.out.cell (p:=⟨b,off+m * 3+1,none⟩) hlt).trans q1
       have q2:=(HW.out.cell (p:=⟨b,off+m * 3+2,none⟩) hlt).trans q2
       have hbw:b < wr.heap.size:=Nat.lt_of_lt_of_le hlt HW.out.size
       have GO:=Lib.hid (fun W=>ref4_goes k hk1 hk6 m l[m] W (by omega))
       have FS:=Lib.hid (fun (h:goesQ k m l[m]=true)=>fit_step (k:=k) hml hmk h)
       have FT:=Lib.hid (fun (h:goesQ k m l[m]=false)=>fit_stop (k:=k) (l:=l) (m:=m) (fun _ h2=>by rw [h] at h2;exact absurd h2.2 (by decide)))
       clear hx
       generalize l[m]=t at *
       cases hg:goesQ k m t with
       | true =>
        have HM2:=Lib.hid (show fitQ k 0 l=(m+1:Nat)+fitQ k (m+1) (l.drop (m+1)) by rw [HM.out,FS.out hg];omega)
        rw [hg] at GO
        clear hg FS FT
        generalize frontQ k=fr at *
        go_wp2_with fail
        refine (HF.out _).mono ?_
        rintro e2 w2 ⟨rfl,hw2⟩
        subst hw2
        go_wp2_with fail
        refine (GO.out _).mono ?_
        rintro e3 w3 ⟨rfl,hb3⟩
        have HW3:=Lib.hid (HW.out.trans (hb3.mono HW.out.size))
        clear hb3
        go_wp2
        exact ⟨⟨m+1,by omega,by omega,by go_num,HW3,HM2⟩,by simp [intOf];omega⟩
       | false =>
        have HM2:=Lib.hid (show fitQ k 0 l=m by rw [HM.out,FT.out hg];omega)
        rw [hg] at GO
        clear hg FS FT
        generalize frontQ k=fr at *
        go_wp2_with fail
        refine (HF.out _).mono ?_
        rintro e2 w2 ⟨rfl,hw2⟩
        subst hw2
        go_wp2_with fail
        refine (GO.out _).mono ?_
        rintro e3 w3 ⟨rfl,hb3⟩
        have HW3:=Lib.hid (HW.out.trans (hb3.mono HW.out.size))
        clear hb3
        go_wp2
        go_meet
        exact ⟨_,rfl,by rw [HM2.out],HW3⟩
      ·have df:decide ((m:Int) < (frontQ k:Int))=false:=by (rw [decide_eq_false_iff_not];omega)
       have HM2:=Lib.hid (show fitQ k 0 l=m by rw [HM.out,fit_stop (fun _ h=>hmk h.1)];omega)
       generalize frontQ k=fr at *
       go_wp2_with fail
       refine (HF.out _).mono ?_
       rintro e2 w2 ⟨rfl,hw2⟩
       subst hw2
       go_wp2
       go_meet
       exact ⟨_,rfl,by rw [HM2.out],HW⟩
     ·have dl:decide ((m:Int) < (l.length:Int))=false:=by (rw [decide_eq_false_iff_not];omega)
      have HM2:=Lib.hid (show fitQ k 0 l=m by rw [HM.out,fit_stop (fun h=>absurd h hml)];omega)
      go_wp2
      go_meet
      exact ⟨_,rfl,by rw [HM2.out],HW⟩
   case rest =>
   clear HW
   obtain ⟨V,rfl,rfl,HW⟩:=hcut
   obtain ⟨F,hF⟩:∃ F,F=fitQ k 0 l:=⟨_,rfl⟩
   have hF1:=fit_le k l 0
   have hF2:=fit_front k l 0 (Nat.zero_le _)
   rw [← hF] at hF1 hF2 ⊢
   rw [Nat.zero_add] at hF2
   have HFE:=Lib.hid hF
   have BJ:=Lib.hid (show (max (bestTo l j:Int) (F:Int))=(bestTo l (j+1):Nat) by
    rw [show bestTo l (j+1)=max (bestTo l j) (fitQ ((j:Int)+1) 0 l) from rfl,← HK.out,← hF];omega)
   clear hF
   by_cases hlt:F < frontQ k
   ·have df:decide ((F:Int) < (frontQ k:Int))=true:=by (rw [decide_eq_true_iff];omega)
    have HN2:=Lib.hid (fun (i:Nat) (hi:i < j+1)=>show ¬ fitQ ((i:Int)+1) 0 l=frontQ ((i:Int)+1) by
     by_cases h:i < j
     ·exact HN.out i h
     ·obtain rfl:i=j:=by omega
      rw [← HK.out,← HFE.out]
      omega)
    generalize frontQ k=fr at *
    go_wp2_with fail
    refine (HF.out _).mono ?_
    rintro e2 w2 ⟨rfl,hw2⟩
    subst hw2
    go_wp2
    exact ⟨⟨j+1,by omega,by rw [HK.out];go_num,congrArg (Value.int .i64) BJ.out,HW,HN2⟩,by simp [intOf];omega⟩
   ·have df:decide ((F:Int) < (frontQ k:Int))=false:=by (rw [decide_eq_false_iff_not];omega)
    have hFe:F=frontQ k:=by omega
    have E:=Lib.hid (E.out.trans (refQ_at l en j hj6 HN.out (by rw [← HK.out,← HFE.out,hFe])))
    rw [← HK.out] at E
    have hl5:5≤l.length:=by omega
    have HFE2:=Lib.hid hFe
    obtain ⟨rb,hrb⟩:∃ rb:Rl,rb=if 5≤k then ⟨txQ l 5,txQ l 7⟩ else noR:=⟨_,rfl⟩
    have E:=Lib.hid (show res=restQ k ⟨k,⟨txQ l 1,txQ l 3⟩,rb,[]⟩ en (l.drop F) by rw [E.out,hrb,hFe];rfl)
    have HRB:=Lib.hid hrb
    clear hrb
    obtain ⟨b,off,cap,he,hc,hmx,hlt2,hx⟩:=hsl1.out.pos (by omega)
    simp only [Value.slice.injEq,true_and] at he
    obtain ⟨rfl,rfl⟩:=he
    have p1:V.cell? ⟨b,off+4,none⟩=some (.string (txQ l 1)):=(HW.out.cell (p:=⟨b,off+4,none⟩) hlt2).trans (by have:=(tok_cells hx 1 (by omega)).2.1;rw [txQ_at (by omega)];simpa using this)
    have p3:V.cell? ⟨b,off+10,none⟩=some (.string (txQ l 3)):=(HW.out.cell (p:=⟨b,off+10,none⟩) hlt2).trans (by have:=(tok_cells hx 3 (by omega)).2.1;rw [txQ_at (by omega)];simpa using this)
    have HX:=Lib.hid hx
    have hbV:b < V.heap.size:=Nat.lt_of_lt_of_le hlt2 HW.out.size
    have hbD:=HOT.out b off rfl
    have dl1:decide ((1:Int) < (l.length:Int))=true:=by (rw [decide_eq_true_iff];omega)
    have dl3:decide ((3:Int) < (l.length:Int))=true:=by (rw [decide_eq_true_iff];omega)
    have hf8:5≤k→frontQ k=8:=fun h=>by
     unfold frontQ
     rw [if_neg (by omega),if_pos h]
    have H8:=Lib.hid (fun (h:5≤k)=>show 8≤l.length by
     have:=hf8 h
     omega)
    clear hf8
    clear hx hFe
    generalize frontQ k=fr at *
    generalize txQ l 1=x1 at *
    generalize txQ l 3=x3 at *
    go_wp2_with fail
    refine (HF.out _).mono ?_
    rintro e2 w2 ⟨rfl,hw2⟩
    subst hw2
    go_wp2_with fail
    go_region
    obtain ⟨gq,hgq⟩:∃ g,g=w2.heap.size:=⟨_,rfl⟩
    obtain ⟨V1,hV1⟩:∃ W,W=(w2.alloc (.cells #[.int .i64 k,.string x1,.string x3,.string emp,.string emp,.slice none 0 0] 83)).drew:=⟨_,rfl⟩
    have HQ:=Lib.hid (show Blk V1 gq #[.int .i64 k,.string x1,.string x3,.string emp,.string emp,.slice none 0 0] by rw [hV1,hgq];exact Blk.new w2 _ _)
    have HW1:=Lib.hid (show Below w1.heap.size w1 V1 by rw [hV1];exact below_drew (HW.out.alloc HW.out.size _))
    have hgq1:w1.heap.size≤gq:=by rw [hgq];exact HW.out.size
    have HMN:=Lib.hid (show w.heap.size≤gq+1 from Nat.le_trans HB.out.size (Nat.le_succ_of_le hgq1))
    rw [← hV1,← hgq]
    clear hV1 hgq p1 p3 hbV HW
    go_upto_if 67 with fail
    go_cut [] from 66 to 77 (fun wx => ∃ V':World,V'=wx∧Hid (Below w1.heap.size w1 V')∧Hid (Blk V' gq #[.int .i64 k,.string x1,.string x3,.string rb.o,.string rb.n,.slice none 0 0]))
    case first =>
     obtain ⟨cb,fb,zb⟩:=HQ.out
     by_cases h5:5≤k
     ·have d5:decide (5≤k)=true:=decide_eq_true h5
      have h8:=H8.out h5
      have HRB:=Lib.hid (show rb=⟨txQ l 5,txQ l 7⟩ by rw [HRB.out,if_pos h5])
      have p5:V1.cell? ⟨b,off+16,none⟩=some (.string (txQ l 5)):=(HW1.out.cell (p:=⟨b,off+16,none⟩) hlt2).trans (by have:=(tok_cells HX.out 5 (by omega)).2.1;rw [txQ_at (by omega)];simpa using this)
      have p7:V1.cell? ⟨b,off+22,none⟩=some (.string (txQ l 7)):=(HW1.out.cell (p:=⟨b,off+22,none⟩) hlt2).trans (by have:=(tok_cells HX.out 7 (by omega)).2.1;rw [txQ_at (by omega)];simpa using this)
      have hbV:b < V1.heap.size:=Nat.lt_of_lt_of_le hlt2 HW1.out.size
      have dl5:decide ((5:Int) < (l.length:Int))=true:=by (rw [decide_eq_true_iff];omega)
      have dl7:decide ((7:Int) < (l.length:Int))=true:=by (rw [decide_eq_true_iff];omega)
      generalize txQ l 5=x5 at *
      generalize txQ l 7=x7 at *
      go_wp2_with fail
      go_region
      try go_wp2
      go_meet
      refine ⟨_,rfl,Lib.hid ?_,Lib.hid ?_⟩
      ·have hb4:=HW1.out
       (repeat' (first | with_reducible exact Below.refl _ _ | with_reducible assumption | with_reducible (refine Below.setCell ?_ ?_ _) | with_reducible (refine Below.alloc ?_ ?_ _) | with_reducible (refine below_drew ?_) | with_reducible (refine below_drewN ?_ _) | with_reducible (refine Below.trans ?_ (Below.mono (by assumption) ?_)) | omega | (simp;done) | (simp;omega)))
      ·rw [HRB.out]
       exact (HQ.out.set 3 (.string x5) (by simp)).set 4 (.string x7) (by simp)
     ·have d5:decide (5≤k)=false:=decide_eq_false h5
      have HRB:=Lib.hid (show rb=noR by rw [HRB.out,if_neg h5])
      go_wp2
      go_meet
      exact ⟨_,rfl,HW1,by rw [HRB.out];exact HQ⟩
    case rest =>
    clear HQ HW1
    obtain ⟨V2,rfl,HW,HQ⟩:=hcut
    go_upto_block 4 with fail
    go_cut [10] from 78 to 114 (fun s10 wx => ∃ (V':World) (n:Nat) (acc:List ByteArray) (v:Value),V'=wx∧s10=.int .i64 n∧n≤l.length∧acc.length≤12∧Hid (Below w1.heap.size w1 V')∧Hid (V'.ownsRow (gq+1) 9 1 v acc.length (strs acc))∧Hid (Blk V' gq #[.int .i64 k,.string x1,.string x3,.string rb.o,.string rb.n,v])∧Hid (res=(if n < l.length then (noQd,(l.getD n ⟨0,[],0⟩).col,2) else if k≤2∧acc.length=0 then (noQd,en,3) else (⟨k,⟨x1,x3⟩,rb,acc⟩,0,0))))
    case first =>
     go_wp2_with fail
     go_loopw [10] (fun vn wr => ∃ (n:Nat) (acc:List ByteArray) (v:Value),vn=.int .i64 n∧n≤l.length∧acc.length≤12∧Hid (Below w1.heap.size w1 wr)∧Hid (wr.ownsRow (gq+1) 9 1 v acc.length (strs acc))∧Hid (Blk wr gq #[.int .i64 k,.string x1,.string x3,.string rb.o,.string rb.n,v])∧Hid (res=restQ k ⟨k,⟨x1,x3⟩,rb,acc⟩ en (l.drop n))) (fun vn _=>300 - (intOf vn).toNat)
     case atStart=>exact ⟨F,[],.slice none 0 0,rfl,hF1,by simp,HW,Lib.hid (World.ownsRow_nil _ _ _ _),HQ,E⟩
     case round =>
      clear HW HQ
      obtain ⟨n,acc,v,rfl,hnl,h12,HW,HO,HQ,HR⟩:=hrel
      obtain ⟨ao,ac,rfl⟩:=own_form HO.out
      obtain ⟨cb,fb,zb⟩:=HQ.out
      by_cases hn:n < l.length
      ·have hd:l.drop n=l[n] :: l.drop (n+1):=List.drop_eq_getElem_cons hn
       obtain ⟨q0,q1,q2⟩:=tok_cells HX.out n hn
       have q0:=(HW.out.cell (p:=⟨b,off+n * 3,none⟩) hlt2).trans q0
       have q1:=(HW.out.cell (p:=⟨b,off+n * 3+1,none⟩) hlt2).trans q1
       have q2:=(HW.out.cell (p:=⟨b,off+n * 3+2,none⟩) hlt2).trans q2
       have hbV:b < wr.heap.size:=Nat.lt_of_lt_of_le hlt2 HW.out.size
       have dn:decide ((n:Int) < (l.length:Int))=true:=by (rw [decide_eq_true_iff];omega)
       have HG:=Lib.hid (show l.getD n ⟨0,[],0⟩=l[n] by rw [List.getD_eq_getElem?_getD,List.getElem?_eq_getElem hn];rfl)
       rw [hd] at HR
       clear hd
       generalize l[n]=t at *
       by_cases h31:k≤3∧t.kind=1
       ·obtain ⟨h3,h1⟩:=h31
        have d3:decide (k≤3)=true:=decide_eq_true h3
        have HR:=Lib.hid (show res=if 12 < (insSB acc t.tx).length then (noQd,t.col,5) else restQ k ⟨k,⟨x1,x3⟩,rb,insSB acc t.tx⟩ en (l.drop (n+1)) by rw [HR.out,restQ,if_pos ⟨h3,h1⟩])
        rw [h1] at q0
        have PUT:=Lib.hid (fun W (hb:Below wr.heap.size wr W)=>ref1_PutO (.slice ao acc.length ac) acc t.tx W (Sl.of_own (own_below HO.out hb)).a (by omega))
        have hgs:gq+1≤wr.heap.size:=HQ.out.2.2
        go_upto_region 17 with fail
        refine wp_region_last (S:=(fun W=>(∀ o,W.cell? ⟨gq,o,none⟩=(#[.int .i64 k,.string x1,.string x3,.string rb.o,.string rb.n,.slice ao acc.length ac]:Array Value)[o]?)∧W.cell? ⟨b,off+n * 3+1,none⟩=some (.string ⟨t.text.toArray⟩))) 9 (by kernel_rfl) ⟨HQ.out.1,q1⟩ (fun hHeld=>?_)
        (refine lyes 0 ?_);(refine lyes 1 ?_);(refine lyes 2 ?_);(refine lyes 3 ?_);(refine lyes 4 ?_);(refine lyes 5 ?_);(refine lyes 6 ?_);(try simp only [Act.put,List.setIfInBounds_toArray,List.set])
        (refine last_call 7 rfl (by kernel_rfl) (fun K hK=>?_);go_simp)
        go_at_call 168;refine (PUT.out _ (below_drew (Below.refl _ _))).mono ?_;rintro e9 wz ⟨v2,rfl,hor,hbq0⟩
        have hbq:Below wr.heap.size wr wz:=(below_drew (Below.refl _ _)).trans hbq0
        have HQz:=Lib.hid (HQ.out.below hbq)
        have q1z:=(hbq.cell (p:=⟨b,off+n * 3+1,none⟩) hbV).trans q1
        have q2z:=(hbq.cell (p:=⟨b,off+n * 3+2,none⟩) hbV).trans q2
        have hbz:b < wz.heap.size:=Nat.lt_of_lt_of_le hbV hbq.size
        have HWz:=Lib.hid (HW.out.trans (hbq.mono HW.out.size))
        have HOz:=Lib.hid (show wz.ownsRow (gq+1) 9 1 v2 (insSB acc t.tx).length (strs (insSB acc t.tx)) by
         rcases hor with ⟨rfl,e1⟩ | hr
         ·rw [e1];exact own_below HO.out hbq
         ·exact own_mono hr hgs)
        (refine hK.out _ _ (⟨HQz.out.1,q1z⟩) (fun hHeld=>?_);clear hK K;(try simp only [Act.put,List.setIfInBounds_toArray,List.set]))
        (refine lyes 8 ?_);(try simp only [Act.put,List.setIfInBounds_toArray,List.set])
        obtain ⟨v2a,v2c,rfl⟩:=own_form HOz.out
        clear cb fb zb q0 q1 q2 PUT hor hbq hbq0 hHeld hbV
        obtain ⟨cb,fb,zb⟩:=HQz.out
        (refine last_end 9 rfl (by kernel_rfl) (by kernel_rfl) (fun K hK=>?_);go_simp)
        refine hK.out _ _ ?_
        clear hK K
        have HQy:=Lib.hid (HQz.out.set 5 (.slice v2a (insSB acc t.tx).length v2c) (by simp))
        have HOy:=Lib.hid (HOz.out.kept (gb_setCell (g:=gq) (o:=5) (World.grownBy.refl _ _) (.slice v2a (insSB acc t.tx).length v2c)) (.inr (fun e=>by have:=(HOz.out.lt gq e).1;omega)))
        have HWy:=Lib.hid (HWz.out.setCell (p:=⟨gq,5,none⟩) hgq1 (.slice v2a (insSB acc t.tx).length v2c))
        clear cb fb zb HQz HOz HWz
        have hneb:¬ b=gq:=by omega
        have q2y:=(setCell_other (w:=wz) (o:=off+n * 3+2) (o':=5) (.slice v2a (insSB acc t.tx).length v2c) hneb).trans q2z
        obtain ⟨WY,hWY⟩:∃ W,W=wz.setCell ⟨gq,5,none⟩ (.slice v2a (insSB acc t.tx).length v2c):=⟨_,rfl⟩
        have hby:b < WY.heap.size:=by rw [hWY];simpa [World.setCell] using hbz
        rw [← hWY] at HQy HOy HWy q2y ⊢
        clear hWY q1z q2z hbz hneb
        obtain ⟨cb,fb,zb⟩:=HQy.out
        by_cases h13:12 < (insSB acc t.tx).length
        ·have d13:decide ((12:Int) < ((insSB acc t.tx).length:Int))=true:=by (rw [decide_eq_true_iff];omega)
         have E:=Lib.hid (HR.out.trans (if_pos h13))
         have HB:=Lib.hid (HB.out.trans (HWy.out.mono (Nat.le_of_lt hD1)))
         obtain ⟨ca,fa,za⟩:=HD.out.below HWy.out
         generalize (insSB acc t.tx).length=L at *
         go_wp2_with fail
         go_region
         try go_wp2
         refine bodyPost_ret (v:=.tuple #[qdv noQd (.slice none 0 0),.int .i64 t.col,.int .i64 5]) (by simp [results,Tryz.results130,go_sem,ca,noQd,noR]) rfl ⟨_,by rw [E.out],by rw [E.out];exact World.ownsRow_nil _ _ _ _,?_⟩
         have hb4:=HB.out
         (repeat' (first | with_reducible exact Below.refl _ _ | with_reducible assumption | with_reducible (refine Below.setCell ?_ ?_ _) | with_reducible (refine Below.alloc ?_ ?_ _) | with_reducible (refine below_drew ?_) | with_reducible (refine below_drewN ?_ _) | with_reducible (refine Below.trans ?_ (Below.mono (by assumption) ?_)) | omega | (simp;done) | (simp;omega)))
        ·have d13:decide ((12:Int) < ((insSB acc t.tx).length:Int))=false:=by (rw [decide_eq_false_iff_not];omega)
         have E:=Lib.hid (HR.out.trans (if_neg h13))
         go_wp2
         exact ⟨⟨n+1,insSB acc t.tx,_,by go_num,by omega,by omega,HWy,HOy,HQy,E⟩,by simp [intOf];omega⟩
       ·have HR:=Lib.hid (show res=(noQd,t.col,2) by rw [HR.out,restQ,if_neg h31])
        have HR:=Lib.hid (show res=(if n < l.length then (noQd,(l.getD n ⟨0,[],0⟩).col,2) else if k≤2∧acc.length=0 then (noQd,en,3) else (⟨k,⟨x1,x3⟩,rb,acc⟩,0,0)) by rw [HR.out,if_pos hn,HG.out])
        by_cases h3:k≤3
        ·have d3:decide (k≤3)=true:=decide_eq_true h3
         have h1:¬ t.kind=1:=fun h=>h31 ⟨h3,h⟩
         have d1:(t.kind == 1)=false:=by simp [h1]
         clear h1 h31
         go_wp2
         go_meet
         exact ⟨_,n,acc,_,rfl,rfl,hnl,h12,HW,HO,HQ,HR⟩
        ·have d3:decide (k≤3)=false:=decide_eq_false h3
         clear h31
         go_wp2
         go_meet
         exact ⟨_,n,acc,_,rfl,rfl,hnl,h12,HW,HO,HQ,HR⟩
      ·have HR:=Lib.hid (show res=(if n < l.length then (noQd,(l.getD n ⟨0,[],0⟩).col,2) else if k≤2∧acc.length=0 then (noQd,en,3) else (⟨k,⟨x1,x3⟩,rb,acc⟩,0,0)) by rw [HR.out,if_neg hn,List.drop_eq_nil_of_le (by omega),restQ])
       have dn:decide ((n:Int) < (l.length:Int))=false:=by (rw [decide_eq_false_iff_not];omega)
       by_cases h3:k≤3
       ·have d3:decide (k≤3)=true:=decide_eq_true h3
        go_wp2
        go_meet
        exact ⟨_,n,acc,_,rfl,rfl,hnl,h12,HW,HO,HQ,HR⟩
       ·have d3:decide (k≤3)=false:=decide_eq_false h3
        go_wp2
        go_meet
        exact ⟨_,n,acc,_,rfl,rfl,hnl,h12,HW,HO,HQ,HR⟩
    case rest =>
    clear HW HQ E hlt2
    obtain ⟨V3,n,acc,v,rfl,rfl,hnl,h12,HW,HO,HQ,HR⟩:=hcut
    obtain ⟨ao,ac,rfl⟩:=own_form HO.out
    have HB:=Lib.hid (HB.out.trans (HW.out.mono (Nat.le_of_lt hD1)))
    obtain ⟨ca,fa,za⟩:=HD.out.below HW.out
    obtain ⟨cb,fb,zb⟩:=HQ.out
    by_cases hn:n < l.length
    ·obtain ⟨_,_,_,he3,_,_,hlt3,_⟩:=hsl1.out.pos (by omega)
     simp only [Value.slice.injEq,Option.some.injEq,Addr.mk.injEq,true_and,and_true] at he3
     obtain ⟨⟨rfl,rfl⟩,rfl⟩:=he3
     have q2:=(HW.out.cell (p:=⟨b,off+n * 3+2,none⟩) hlt3).trans (tok_cells HX.out n hn).2.2
     have hbV:b < V3.heap.size:=Nat.lt_of_lt_of_le hlt3 HW.out.size
     have dn:decide ((n:Int) < (l.length:Int))=true:=by (rw [decide_eq_true_iff];omega)
     have E:=Lib.hid (show res=(noQd,l[n].col,2) by rw [HR.out,if_pos hn,List.getD_eq_getElem?_getD,List.getElem?_eq_getElem hn];rfl)
     generalize l[n]=t at *
     go_wp2_with fail
     go_region
     try go_wp2
     refine bodyPost_ret (v:=.tuple #[qdv noQd (.slice none 0 0),.int .i64 t.col,.int .i64 2]) (by simp [results,Tryz.results130,go_sem,ca,noQd,noR]) rfl ⟨_,by rw [E.out],by rw [E.out];exact World.ownsRow_nil _ _ _ _,?_⟩
     have hb4:=HB.out
     (repeat' (first | with_reducible exact Below.refl _ _ | with_reducible assumption | with_reducible (refine Below.setCell ?_ ?_ _) | with_reducible (refine Below.alloc ?_ ?_ _) | with_reducible (refine below_drew ?_) | with_reducible (refine below_drewN ?_ _) | with_reducible (refine Below.trans ?_ (Below.mono (by assumption) ?_)) | omega | (simp;done) | (simp;omega)))
    ·have dn:decide ((n:Int) < (l.length:Int))=false:=by (rw [decide_eq_false_iff_not];omega)
     have HR:=Lib.hid (HR.out.trans (if_neg hn))
     by_cases h2:k≤2∧acc.length=0
     ·have d2:decide (k≤2)=true:=decide_eq_true h2.1
      have d0:((acc.length:Int) == 0)=true:=by rw [beq_iff_eq];omega
      have E:=Lib.hid (HR.out.trans (if_pos h2))
      clear h2
      go_wp2_with fail
      refine (EN.out _).mono ?_
      rintro e9 w9 ⟨rfl,rfl⟩
      go_wp2
      refine bodyPost_ret (v:=.tuple #[qdv noQd (.slice none 0 0),.int .i64 en,.int .i64 3]) (by simp [results,Tryz.results130,go_sem,ca,noQd,noR]) rfl ⟨_,by rw [E.out],by rw [E.out];exact World.ownsRow_nil _ _ _ _,?_⟩
      have hb4:=HB.out
      (repeat' (first | with_reducible exact Below.refl _ _ | with_reducible assumption | with_reducible (refine Below.setCell ?_ ?_ _) | with_reducible (refine Below.alloc ?_ ?_ _) | with_reducible (refine below_drew ?_) | with_reducible (refine below_drewN ?_ _) | with_reducible (refine Below.trans ?_ (Below.mono (by assumption) ?_)) | omega | (simp;done) | (simp;omega)))
     ·have E:=Lib.hid (HR.out.trans (if_neg h2))
      by_cases h22:k≤2
      ·have d2:decide (k≤2)=true:=decide_eq_true h22
       have d0:((acc.length:Int) == 0)=false:=by rw [beq_eq_false_iff_ne];intro h;exact h2 ⟨h22,by omega⟩
       have ha0:¬ acc.length=0:=fun h=>h2 ⟨h22,h⟩
       clear h2
       go_wp2
       refine bodyPost_ret (v:=.tuple #[qdv ⟨k,⟨x1,x3⟩,rb,acc⟩ (.slice ao acc.length ac),.int .i64 0,.int .i64 0]) (by simp [results,Tryz.results130,go_sem,ca]) rfl ⟨_,by rw [E.out],?_,?_⟩
       ·rw [E.out]
        refine own_mono (HO.out.kept (row:=some w.heap.size) ?_ (.inr (fun e=>by have:=(HO.out.lt _ e).1;omega))) HMN.out
        repeat' (first | exact World.grownBy.refl _ _ | refine gb_setCell ?_ _)
       ·have hb4:=HB.out
        (repeat' (first | with_reducible exact Below.refl _ _ | with_reducible assumption | with_reducible (refine Below.setCell ?_ ?_ _) | with_reducible (refine Below.alloc ?_ ?_ _) | with_reducible (refine below_drew ?_) | with_reducible (refine below_drewN ?_ _) | with_reducible (refine Below.trans ?_ (Below.mono (by assumption) ?_)) | omega | (simp;done) | (simp;omega)))
      ·have d2:decide (k≤2)=false:=decide_eq_false h22
       clear h2
       go_wp2
       refine bodyPost_ret (v:=.tuple #[qdv ⟨k,⟨x1,x3⟩,rb,acc⟩ (.slice ao acc.length ac),.int .i64 0,.int .i64 0]) (by simp [results,Tryz.results130,go_sem,ca]) rfl ⟨_,by rw [E.out],?_,?_⟩
       ·rw [E.out]
        refine own_mono (HO.out.kept (row:=some w.heap.size) ?_ (.inr (fun e=>by have:=(HO.out.lt _ e).1;omega))) HMN.out
        repeat' (first | exact World.grownBy.refl _ _ | refine gb_setCell ?_ _)
       ·have hb4:=HB.out
        (repeat' (first | with_reducible exact Below.refl _ _ | with_reducible assumption | with_reducible (refine Below.setCell ?_ ?_ _) | with_reducible (refine Below.alloc ?_ ?_ _) | with_reducible (refine below_drew ?_) | with_reducible (refine below_drewN ?_ _) | with_reducible (refine Below.trans ?_ (Below.mono (by assumption) ?_)) | omega | (simp;done) | (simp;omega)))
  ·obtain rfl:j=6:=by omega
   have E:=Lib.hid (E.out.trans (refQ_none l en HN.out))
   rw [bestTo_six] at hbt ⊢
   have HB:=Lib.hid (HB.out.trans (HW.out.mono (Nat.le_of_lt hD1)))
   obtain ⟨ca,fa,za⟩:=HD.out.below HW.out
   by_cases hb:bestQ l=l.length
   ·have E:=Lib.hid (show res=(noQd,en,3) by rw [E.out];exact if_pos hb)
    have db:((bestQ l:Int) == (l.length:Int))=true:=by rw [beq_iff_eq];omega
    generalize bestQ l=bq at *
    go_wp2_with fail
    refine (EN.out _).mono ?_
    rintro e9 w9 ⟨rfl,rfl⟩
    go_wp2
    refine bodyPost_ret (v:=.tuple #[qdv noQd (.slice none 0 0),.int .i64 en,.int .i64 3]) (by simp [results,Tryz.results130,go_sem,ca,noQd,noR]) rfl ⟨_,by rw [E.out],by rw [E.out];exact World.ownsRow_nil _ _ _ _,?_⟩
    have hb4:=HB.out
    (repeat' (first | with_reducible exact Below.refl _ _ | with_reducible assumption | with_reducible (refine Below.setCell ?_ ?_ _) | with_reducible (refine Below.alloc ?_ ?_ _) | with_reducible (refine below_drew ?_) | with_reducible (refine below_drewN ?_ _) | with_reducible (refine Below.trans ?_ (Below.mono (by assumption) ?_)) | omega | (simp;done) | (simp;omega)))
   ·have db:((bestQ l:Int) == (l.length:Int))=false:=by rw [beq_eq_false_iff_ne];omega
    have hbl:bestQ l < l.length:=by omega
    have E8:=Lib.hid (show res=(noQd,(l.getD (bestQ l) ⟨0,[],0⟩).col,2) by rw [E.out];exact if_neg hb)
    obtain ⟨b,off,cap,he,hc,hmx,hlt2,hx⟩:=hsl1.out.pos (by omega)
    simp only [Value.slice.injEq,true_and] at he
    obtain ⟨rfl,rfl⟩:=he
    have q2:=(HW.out.cell (p:=⟨b,off+bestQ l * 3+2,none⟩) hlt2).trans (tok_cells hx (bestQ l) hbl).2.2
    have hbV:b < wr.heap.size:=Nat.lt_of_lt_of_le hlt2 HW.out.size
    have hbD:=HOT.out b off rfl
    have dn:decide ((bestQ l:Int) < (l.length:Int))=true:=by (rw [decide_eq_true_iff];omega)
    have E:=Lib.hid (show res=(noQd,l[bestQ l].col,2) by rw [E8.out,List.getD_eq_getElem?_getD,List.getElem?_eq_getElem hbl];rfl)
    clear hx E8
    generalize l[bestQ l]=t at *
    generalize bestQ l=bq at *
    go_wp2_with fail
    go_region
    try go_wp2
    refine bodyPost_ret (v:=.tuple #[qdv noQd (.slice none 0 0),.int .i64 t.col,.int .i64 2]) (by simp [results,Tryz.results130,go_sem,ca,noQd,noR]) rfl ⟨_,by rw [E.out],by rw [E.out];exact World.ownsRow_nil _ _ _ _,?_⟩
    have hb4:=HB.out
    (repeat' (first | with_reducible exact Below.refl _ _ | with_reducible assumption | with_reducible (refine Below.setCell ?_ ?_ _) | with_reducible (refine Below.alloc ?_ ?_ _) | with_reducible (refine below_drew ?_) | with_reducible (refine below_drewN ?_ _) | with_reducible (refine Below.trans ?_ (Below.mono (by assumption) ?_)) | omega | (simp;done) | (simp;omega)))
end
section
open Go.RowKit Go.Shelf

theorem list5 {α:Type} {l:List α} (h:l.length=5):∃ t0 t1 t2 t3 t4,l=[t0,t1,t2,t3,t4]:=by
 match l,h with
 | [t0,t1,t2,t3,t4],_=>exact ⟨t0,t1,t2,t3,t4,rfl⟩
theorem list7 {α:Type} {l:List α} (h:l.length=7):∃ t0 t1 t2 t3 t4 t5 t6,l=[t0,t1,t2,t3,t4,t5,t6]:=by
 match l,h with
 | [t0,t1,t2,t3,t4,t5,t6],_=>exact ⟨t0,t1,t2,t3,t4,t5,t6,rfl⟩
theorem list9 {α:Type} {l:List α} (h:l.length=9):∃ t0 t1 t2 t3 t4 t5 t6 t7 t8,l=[t0,t1,t2,t3,t4,t5,t6,t7,t8]:=by
 match l,h with
 | [t0,t1,t2,t3,t4,t5,t6,t7,t8],_=>exact ⟨t0,t1,t2,t3,t4,t5,t6,t7,t8,rfl⟩
theorem list11 {α:Type} {l:List α} (h:l.length=11):∃ t0 t1 t2 t3 t4 t5 t6 t7 t8 t9 t10,l=[t0,t1,t2,t3,t4,t5,t6,t7,t8,t9,t10]:=by
 match l,h with
 | [t0,t1,t2,t3,t4,t5,t6,t7,t8,t9,t10],_=>exact ⟨t0,t1,t2,t3,t4,t5,t6,t7,t8,t9,t10,rfl⟩
theorem fits_le:∀ (l:List Tok) (s:List Int),fitsS l s≤l.length
 | [],s=>by rw [fits_none];simp
 | t :: l,[]=>by rw [fits_end];omega
 | t :: l,k :: s=>by
  rw [fits_cons]
  have:=fits_le l s
  split <;> simp <;> omega
def noEx (l:List Tok) (s:List Int) (n:Nat):Prop:=¬ (fitsS l s=l.length∧fitsS l s=n)
def bestK (l:List Tok):Nat→Nat
 | 0=>0
 | 1=>fitsS l sh1
 | 2=>max (fitsS l sh1) (fitsS l sh2)
 | 3=>max (max (fitsS l sh1) (fitsS l sh2)) (fitsS l sh3)
 | _=>best l
def noExK (l:List Tok):Nat→Prop
 | 0=>True
 | 1=>noEx l sh1 5
 | 2=>noEx l sh1 5∧noEx l sh2 7
 | 3=>noEx l sh1 5∧noEx l sh2 7∧noEx l sh3 9
 | _=>noEx l sh1 5∧noEx l sh2 7∧noEx l sh3 9∧noEx l sh4 11
theorem best_le (l:List Tok):best l≤l.length:=by
 have:=fits_le l sh1;have:=fits_le l sh2;have:=fits_le l sh3;have:=fits_le l sh4
 unfold best;omega
theorem refS_end (l:List Tok) (e:Int) (h:noExK l 4):refS l e=refEnd l e:=by
 obtain ⟨h1,h2,h3,h4⟩:=h
 unfold refS
 rw [if_neg h1,if_neg h2,if_neg h3,if_neg h4]
theorem refEnd_yes (l:List Tok) (e:Int) (h:best l=l.length):refEnd l e=(noS,e,3):=if_pos h
theorem refEnd_no (l:List Tok) (e:Int) (h:best l < l.length):refEnd l e=(noS,l[best l].col,2):=by
 unfold refEnd
 rw [if_neg (by omega)]
 simp [List.getD_eq_getElem?_getD,List.getElem?_eq_getElem h]
theorem refS_1 (l:List Tok) (e:Int) (h:fitsS l sh1=l.length∧fitsS l sh1=5):refS l e=(⟨1,⟨tx l 0,tx l 2⟩,tx l 4,noR,noR,emp⟩,0,0):=if_pos h
theorem refS_2 (l:List Tok) (e:Int) (h1:noExK l 1) (h:fitsS l sh2=l.length∧fitsS l sh2=7):refS l e=(⟨2,⟨tx l 0,tx l 2⟩,emp,⟨tx l 4,tx l 6⟩,noR,emp⟩,0,0):=by
 unfold refS;rw [if_neg h1,if_pos h]
theorem refS_3 (l:List Tok) (e:Int) (h1:noExK l 2) (h:fitsS l sh3=l.length∧fitsS l sh3=9):refS l e=(⟨3,⟨tx l 0,tx l 2⟩,emp,⟨tx l 4,tx l 6⟩,noR,tx l 8⟩,0,0):=by
 unfold refS;rw [if_neg h1.1,if_neg h1.2,if_pos h]
theorem refS_4 (l:List Tok) (e:Int) (h1:noExK l 3) (h:fitsS l sh4=l.length∧fitsS l sh4=11):refS l e=(normalS ⟨4,⟨tx l 0,tx l 2⟩,emp,⟨tx l 4,tx l 6⟩,⟨tx l 8,tx l 10⟩,emp⟩,0,0):=by
 unfold refS;rw [if_neg h1.1,if_neg h1.2.1,if_neg h1.2.2,if_pos h]
theorem cast_max (a b:Nat):((max a b:Nat):Int)=max (a:Int) (b:Int):=by omega
theorem sl_cells {w:World} {b off:Nat} {xs:List Value} (h:∀ j u,xs[j]? = some u→w.cell? ⟨b,off+j,none⟩=some u) (j:Nat) (u:Value) (hu:xs[j]? = some u):w.cell? ⟨b,off+j,none⟩=some u:=h j u hu

set_option maxRecDepth 100000 in
set_option maxHeartbeats 8000000 in
theorem ref3_Parse (s:ByteArray) (w:World) (hs:s.size≤9223372036854775806) :
  Calls Tryz.prog 131 #[.string s] w fun e w'=>e=.returned (.tuple #[sv (parseS s).1,.int .i64 (parseS s).2.1,.int .i64 (parseS s).2.2])∧Below w.heap.size w w':=by
 have E:=Lib.hid (show parseS s=parseT (tokens (bl s)) (endOf s) from rfl)
 have HEnd:=Lib.hid (fun W=>ref3_End s W hs)
 have hen:endOf' s=endOf s:=rfl
 rw [hen] at HEnd
 generalize endOf s=en at E HEnd
 generalize parseS s=res at E ⊢
 clear hen
 go_enter Tryz.func131,Tryz.ntmps131
 go_wp2_with fail
 refine (ref2_Tokens_any s _ (by omega)).mono ?_
 rintro e w1 ⟨va,rfl,hown1,hb1⟩
 obtain ⟨sa,sc,rfl⟩:=own_form hown1
 have HLOW:Hid (∀ b o,sa=some ⟨b,o,none⟩→w.heap.size < b):=Lib.hid (by
  intro b o e
  subst e
  rcases hown1.2 with ⟨h0,_⟩ | ⟨g,cap,cur,h0,hb,_⟩
  ·cases h0
  ·cases h0
   simp at hb
   omega)
 have hsl1:=Lib.hid (Sl.of_own hown1)
 have hres:=(keep1 hb1)
 have hbw1:=(((Below.refl _ _).alloc (Nat.le_refl _) _).trans (hb1.mono (by simp)):Below w.heap.size w w1)
 clear hown1 hb1
 generalize tokens (bl s)=t at hsl1 E ⊢
 obtain ⟨l,i,y⟩:=t
 dsimp only at hsl1 E ⊢
 by_cases hy:y=0
 ·subst hy
  replace E:=Lib.hid (E.out.trans ((parseT_good rfl).trans (law_parse l en)))
  have hz1:=hbw1.size
  have hzw:w.heap.size < w1.heap.size:=hres.2.2
  have HBW:=Lib.hid hbw1
  clear hbw1
  go_wp2_with fail
  refine (ref3_shapes w1).mono ?_
  rintro e w2 ⟨v,r1,r2,r3,r4,rfl,hv,g1,g2,g3,g4,hb2⟩
  obtain ⟨vb,vo,vc,rfl,hvc,hvm,hvlt,hvx⟩:=hv.pos (by decide)
  have v0:=sl_cells hvx 0 r1 rfl
  have v1:=sl_cells hvx 1 r2 rfl
  have v2:=sl_cells hvx 2 r3 rfl
  have v3:=sl_cells hvx 3 r4 rfl
  simp only [Nat.add_zero] at v0
  have G1:=Lib.hid g1
  have G2:=Lib.hid g2
  have G3:=Lib.hid g3
  have G4:=Lib.hid g4
  obtain ⟨ra1,rc1,rfl⟩:=g1.form
  obtain ⟨ra2,rc2,rfl⟩:=g2.form
  obtain ⟨ra3,rc3,rfl⟩:=g3.form
  obtain ⟨ra4,rc4,rfl⟩:=g4.form
  have hbw2:=HBW.out.trans (hb2.mono hz1)
  have HBW2:=Lib.hid hbw2
  have hz2:=hbw2.size
  have hsl2:=Lib.hid (hsl1.out.below hb2)
  have hres2:=hres.below hb2
  have HRES:=Lib.hid hres2
  have hmax:=hsl2.out.max
  have hzz2:=hres2.2.2
  clear hv hvx g1 g2 g3 g4 hres hres2 hb2 hbw2 hsl1
  have F1:=Lib.hid (fun n=>ref3_fits _ _ l sh1 (w2.drewN n) hsl2.out G1.out (by decide))
  have F2:=Lib.hid (fun n=>ref3_fits _ _ l sh2 (w2.drewN n) hsl2.out G2.out (by decide))
  have F3:=Lib.hid (fun n=>ref3_fits _ _ l sh3 (w2.drewN n) hsl2.out G3.out (by decide))
  have F4:=Lib.hid (fun n=>ref3_fits _ _ l sh4 (w2.drewN n) hsl2.out G4.out (by decide))
  go_wp2_with fail
  go_loopw [8,26] (fun b i wr => ∃ k n m:Nat,k≤4∧i=.int .i64 k∧b=.int .i64 m∧wr=w2.drewN n∧Hid (m=bestK l k)∧Hid (noExK l k)) (fun _ i _=>4 - (intOf i).toNat)
  case atStart=>exact ⟨0,0,0,by omega,rfl,rfl,rfl,Lib.hid rfl,Lib.hid trivial⟩
  case round =>
   obtain ⟨k,n,m,hk,rfl,rfl,rfl,HM,HN⟩:=hrel
   by_cases k0:k=0
   ·subst k0
    by_cases hex:fitsS l sh1=l.length∧fitsS l sh1=5
    ·obtain ⟨hx1,hx2⟩:=hex
     obtain ⟨t0,t1,t2,t3,t4,rfl⟩:=list5 (hx1.symm.trans hx2)
     have E1:Hid (res=(⟨1,⟨⟨t0.text.toArray⟩,⟨t2.text.toArray⟩⟩,⟨t4.text.toArray⟩,noR,noR,emp⟩,0,0)):=Lib.hid (E.out.trans (refS_1 _ en ⟨hx1,hx2⟩))
     obtain ⟨tb,tof,tc,he,hc,hm,hlt,hx⟩:=hsl2.out.pos (by simp)
     simp only [Value.slice.injEq,true_and] at he
     obtain ⟨rfl,rfl⟩:=he
     have p0:w2.cell? ⟨tb,tof+1,none⟩=some (.string ⟨t0.text.toArray⟩):=(tok_kind hx 0 (by simp)).2.1
     have p2:w2.cell? ⟨tb,tof+6+1,none⟩=some (.string ⟨t2.text.toArray⟩):=(tok_kind hx 2 (by simp)).2.1
     have p4:w2.cell? ⟨tb,tof+12+1,none⟩=some (.string ⟨t4.text.toArray⟩):=(tok_kind hx 4 (by simp)).2.1
     have FF:=Lib.hid (F1.out n)
     rw [hx2] at FF
     have HM2:=Lib.hid HM
     obtain ⟨ca,fa,za⟩:=id HRES.out
     clear hx1 hx2 hx E HM
     go_wp2_with (go_at_call 201;refine FF.out.mono ?_;rintro e w3 ⟨rfl,nq,rfl⟩)
     obtain ⟨w4,hw4⟩:∃ w4,w4=w2.drewN (n+nq):=⟨_,rfl⟩
     have P0:w4.cell? ⟨tb,tof+1,none⟩=some (.string ⟨t0.text.toArray⟩):=by rw [hw4];exact p0
     have P2:w4.cell? ⟨tb,tof+6+1,none⟩=some (.string ⟨t2.text.toArray⟩):=by rw [hw4];exact p2
     have P4:w4.cell? ⟨tb,tof+12+1,none⟩=some (.string ⟨t4.text.toArray⟩):=by rw [hw4];exact p4
     have HB4:Hid (Below w2.heap.size w2 w4):=Lib.hid (by rw [hw4];exact below_drewN (Below.refl _ _) _)
     have CA4:=Lib.hid (Blk.below HRES.out HB4.out)
     have hlt4:tb < w4.heap.size:=by rw [hw4];exact hlt
     have qn:∀ (cs:Array Value) (t:TypeId) (o:Nat),(w4.drew.alloc (.cells cs t)).cell? ⟨w4.heap.size,o,none⟩=cs[o]? := fun cs t o=>World.cell?_alloc_at cs t _ o rfl
     have qf:∀ (cs:Array Value) (t:TypeId) (o:Nat),(w4.drew.alloc (.cells cs t)).frozen? ⟨w4.heap.size,o,none⟩=false:=fun cs t o=>(Blk.new w4.drew cs t).2.1 o
     rw [← hw4]
     clear ca fa za p0 p2 p4 hlt hw4
     have hwr:IntKind.i64.wrap 1=1:=by rfl
     go_region_held3 (fun W=>W.cell? ⟨tb,tof+1,none⟩=some (.string ⟨t0.text.toArray⟩)∧W.cell? ⟨tb,tof+6+1,none⟩=some (.string ⟨t2.text.toArray⟩)) (first | exact ⟨P0,P2⟩ | go_keep) (fail)
     try rw [hwr]
     obtain ⟨w5,hw5⟩:∃ w5,w5=(w4.alloc (.cells #[.int .i64 1,.string ⟨t0.text.toArray⟩,.string ⟨t2.text.toArray⟩,.string ⟨#[]⟩,.string ⟨#[]⟩,.string ⟨#[]⟩,.string ⟨#[]⟩,.string ⟨#[]⟩,.string ⟨#[]⟩] 80)).drew:=⟨_,rfl⟩
     have HB5:Hid (Below w2.heap.size w2 w5):=Lib.hid (by rw [hw5];exact below_drew (HB4.out.alloc HB4.out.size _))
     have B5:Blk w5 w4.heap.size #[.int .i64 1,.string ⟨t0.text.toArray⟩,.string ⟨t2.text.toArray⟩,.string ⟨#[]⟩,.string ⟨#[]⟩,.string ⟨#[]⟩,.string ⟨#[]⟩,.string ⟨#[]⟩,.string ⟨#[]⟩]:=by rw [hw5];exact Blk.new w4 _ _
     have R4:w5.cell? ⟨tb,tof+12+1,none⟩=some (.string ⟨t4.text.toArray⟩):=by rw [hw5];exact (World.cell?_alloc_past _ _ _ hlt4).trans P4
     obtain ⟨ca,fa,za⟩:=Blk.below HRES.out HB5.out
     obtain ⟨cb,fb,zb⟩:=id B5
     have hne:w.heap.size < w4.heap.size:=Nat.lt_of_lt_of_le HRES.out.2.2 HB4.out.size
     have hlt5:tb < w4.heap.size:=hlt4
     rw [← hw5]
     clear hw5 B5 qn qf CA4 P0 P2 P4
     go_wp2_with fail
     refine bodyPost_ret (v:=.tuple #[sv ⟨1,⟨⟨t0.text.toArray⟩,⟨t2.text.toArray⟩⟩,⟨t4.text.toArray⟩,noR,noR,emp⟩,.int .i64 0,.int .i64 0]) (by simp [results,Tryz.results131,go_sem,ca,noR]) rfl ⟨by rw [E1.out],?_⟩
     have hb5:=HB5.out
     have hz4:=HB4.out.size
     have hz5:=HB5.out.size
     have hb4:=HBW2.out
     (repeat' (first | with_reducible exact Below.refl _ _ | with_reducible assumption | with_reducible (refine Below.setCell ?_ ?_ _) | with_reducible (refine Below.alloc ?_ ?_ _) | with_reducible (refine below_drew ?_) | with_reducible (refine below_drewN ?_ _) | with_reducible (refine Below.trans ?_ (Below.mono (by assumption) ?_)) | omega | (simp;done) | (simp;omega)))
    ·have HN1:Hid (noExK l 1):=Lib.hid hex
     have HM1:Hid (max m (fitsS l sh1)=bestK l 1):=Lib.hid (by rw [HM.out];show max 0 _=fitsS l sh1;omega)
     have FF:=Lib.hid (F1.out n)
     by_cases e1:fitsS l sh1=l.length
     ·have d1:((fitsS l sh1:Int) == (l.length:Int))=true:=by rw [beq_iff_eq];omega
      have d2:((fitsS l sh1:Int) == 5)=false:=by rw [beq_eq_false_iff_ne];exact fun h=>hex ⟨e1,by omega⟩
      clear hex e1
      have HM2:=Lib.hid HM
      clear HM
      go_wp2_with (go_at_call 201;refine FF.out.mono ?_;rintro e w3 ⟨rfl,nq,rfl⟩)
      exact ⟨⟨1,n+nq,max m (fitsS l sh1),by omega,by go_num,by rw [cast_max],by simp,HM1,HN1⟩,by simp [intOf]⟩
     ·have d1:((fitsS l sh1:Int) == (l.length:Int))=false:=by rw [beq_eq_false_iff_ne];omega
      clear hex e1
      have HM2:=Lib.hid HM
      clear HM
      go_wp2_with (go_at_call 201;refine FF.out.mono ?_;rintro e w3 ⟨rfl,nq,rfl⟩)
      exact ⟨⟨1,n+nq,max m (fitsS l sh1),by omega,by go_num,by rw [cast_max],by simp,HM1,HN1⟩,by simp [intOf]⟩
   by_cases k1:k=1
   ·subst k1
    by_cases hex:fitsS l sh2=l.length∧fitsS l sh2=7
    ·obtain ⟨hx1,hx2⟩:=hex
     obtain ⟨t0,t1,t2,t3,t4,t5,t6,rfl⟩:=list7 (hx1.symm.trans hx2)
     have E1:Hid (res=(normalS ⟨2,⟨⟨t0.text.toArray⟩,⟨t2.text.toArray⟩⟩,emp,⟨⟨t4.text.toArray⟩,⟨t6.text.toArray⟩⟩,noR,emp⟩,0,0)):=Lib.hid (E.out.trans ((refS_2 _ en HN.out ⟨hx1,hx2⟩).trans (by rw [normal2];rfl)))
     obtain ⟨tb,tof,tc,he,hc,hm,hlt,hx⟩:=hsl2.out.pos (by simp)
     simp only [Value.slice.injEq,true_and] at he
     obtain ⟨rfl,rfl⟩:=he
     have p0:w2.cell? ⟨tb,tof+1,none⟩=some (.string ⟨t0.text.toArray⟩):=(tok_kind hx 0 (by simp)).2.1
     have p2:w2.cell? ⟨tb,tof+6+1,none⟩=some (.string ⟨t2.text.toArray⟩):=(tok_kind hx 2 (by simp)).2.1
     have p4:w2.cell? ⟨tb,tof+12+1,none⟩=some (.string ⟨t4.text.toArray⟩):=(tok_kind hx 4 (by simp)).2.1
     have p6:w2.cell? ⟨tb,tof+18+1,none⟩=some (.string ⟨t6.text.toArray⟩):=(tok_kind hx 6 (by simp)).2.1
     have FF:=Lib.hid (F2.out n)
     rw [hx2] at FF
     have HM2:=Lib.hid HM
     obtain ⟨ca,fa,za⟩:=id HRES.out
     clear hx1 hx2 hx E HM
     go_wp2_with (go_at_call 201;refine FF.out.mono ?_;rintro e w3 ⟨rfl,nq,rfl⟩)
     obtain ⟨w4,hw4⟩:∃ w4,w4=w2.drewN (n+nq):=⟨_,rfl⟩
     have P0:w4.cell? ⟨tb,tof+1,none⟩=some (.string ⟨t0.text.toArray⟩):=by rw [hw4];exact p0
     have P2:w4.cell? ⟨tb,tof+6+1,none⟩=some (.string ⟨t2.text.toArray⟩):=by rw [hw4];exact p2
     have P4:w4.cell? ⟨tb,tof+12+1,none⟩=some (.string ⟨t4.text.toArray⟩):=by rw [hw4];exact p4
     have P6:w4.cell? ⟨tb,tof+18+1,none⟩=some (.string ⟨t6.text.toArray⟩):=by rw [hw4];exact p6
     have HB4:Hid (Below w2.heap.size w2 w4):=Lib.hid (by rw [hw4];exact below_drewN (Below.refl _ _) _)
     have CA4:=Lib.hid (Blk.below HRES.out HB4.out)
     have hlt4:tb < w4.heap.size:=by rw [hw4];exact hlt
     have qn:∀ (cs:Array Value) (t:TypeId) (o:Nat),(w4.drew.alloc (.cells cs t)).cell? ⟨w4.heap.size,o,none⟩=cs[o]? := fun cs t o=>World.cell?_alloc_at cs t _ o rfl
     have qf:∀ (cs:Array Value) (t:TypeId) (o:Nat),(w4.drew.alloc (.cells cs t)).frozen? ⟨w4.heap.size,o,none⟩=false:=fun cs t o=>(Blk.new w4.drew cs t).2.1 o
     rw [← hw4]
     clear ca fa za p0 p2 p4 p6 hlt hw4
     have hwr:IntKind.i64.wrap 2=2:=by rfl
     go_region_held3 (fun W=>W.cell? ⟨tb,tof+1,none⟩=some (.string ⟨t0.text.toArray⟩)∧W.cell? ⟨tb,tof+6+1,none⟩=some (.string ⟨t2.text.toArray⟩)) (first | exact ⟨P0,P2⟩ | go_keep) (fail)
     try rw [hwr]
     obtain ⟨w5,hw5⟩:∃ w5,w5=(w4.alloc (.cells #[.int .i64 2,.string ⟨t0.text.toArray⟩,.string ⟨t2.text.toArray⟩,.string ⟨#[]⟩,.string ⟨#[]⟩,.string ⟨#[]⟩,.string ⟨#[]⟩,.string ⟨#[]⟩,.string ⟨#[]⟩] 80)).drew:=⟨_,rfl⟩
     have HB5:Hid (Below w2.heap.size w2 w5):=Lib.hid (by rw [hw5];exact below_drew (HB4.out.alloc HB4.out.size _))
     have B5:Blk w5 w4.heap.size #[.int .i64 2,.string ⟨t0.text.toArray⟩,.string ⟨t2.text.toArray⟩,.string ⟨#[]⟩,.string ⟨#[]⟩,.string ⟨#[]⟩,.string ⟨#[]⟩,.string ⟨#[]⟩,.string ⟨#[]⟩]:=by rw [hw5];exact Blk.new w4 _ _
     have R4:w5.cell? ⟨tb,tof+12+1,none⟩=some (.string ⟨t4.text.toArray⟩):=by rw [hw5];exact (World.cell?_alloc_past _ _ _ hlt4).trans P4
     have R6:w5.cell? ⟨tb,tof+18+1,none⟩=some (.string ⟨t6.text.toArray⟩):=by rw [hw5];exact (World.cell?_alloc_past _ _ _ hlt4).trans P6
     obtain ⟨ca,fa,za⟩:=Blk.below HRES.out HB5.out
     obtain ⟨cb,fb,zb⟩:=id B5
     have hne:w.heap.size < w4.heap.size:=Nat.lt_of_lt_of_le HRES.out.2.2 HB4.out.size
     have hlt5:tb < w4.heap.size:=hlt4
     rw [← hw5]
     clear hw5 B5 qn qf CA4 P0 P2 P4 P6
     go_wp2_with fail
     refine region_tail 10 (by kernel_rfl) (by kernel_rfl) ?_
     simp only [List.take_succ_cons,List.take_zero,List.drop_succ_cons,List.drop_zero]
     repeat still_step
     refine wpStill_nil ?_
     go_wp2_with fail
     refine (ref3_Normal ⟨2,⟨⟨t0.text.toArray⟩,⟨t2.text.toArray⟩⟩,emp,⟨⟨t4.text.toArray⟩,⟨t6.text.toArray⟩⟩,noR,emp⟩ _).mono ?_
     have hb5:=HB5.out
     have hz4:=HB4.out.size
     have hz5:=HB5.out.size
     rintro e w9 ⟨rfl,hb9⟩
     have hb6:Below w2.heap.size w2 w9:=by
      (repeat' (first | with_reducible exact Below.refl _ _ | with_reducible assumption | with_reducible (refine Below.setCell ?_ ?_ _) | with_reducible (refine Below.alloc ?_ ?_ _) | with_reducible (refine below_drew ?_) | with_reducible (refine below_drewN ?_ _) | with_reducible (refine Below.trans ?_ (Below.mono (by assumption) ?_)) | omega | (simp;done) | (simp;omega)))
     obtain ⟨cc,fc,zc⟩:=Blk.below HRES.out hb6
     clear ca fa za
     generalize normalS ⟨2,⟨⟨t0.text.toArray⟩,⟨t2.text.toArray⟩⟩,emp,⟨⟨t4.text.toArray⟩,⟨t6.text.toArray⟩⟩,noR,emp⟩=nz at *
     obtain ⟨nk,⟨nh1,nh2⟩,nwho,⟨na1,na2⟩,⟨nb1,nb2⟩,nvia⟩:=nz
     go_wp2_with fail
     refine bodyPost_ret (v:=.tuple #[sv ⟨nk,⟨nh1,nh2⟩,nwho,⟨na1,na2⟩,⟨nb1,nb2⟩,nvia⟩,.int .i64 0,.int .i64 0]) (by simp [results,Tryz.results131,go_sem,cc]) rfl ⟨by rw [E1.out],?_⟩
     have hb4:=HBW2.out
     (repeat' (first | with_reducible exact Below.refl _ _ | with_reducible assumption | with_reducible (refine Below.setCell ?_ ?_ _) | with_reducible (refine Below.alloc ?_ ?_ _) | with_reducible (refine below_drew ?_) | with_reducible (refine below_drewN ?_ _) | with_reducible (refine Below.trans ?_ (Below.mono (by assumption) ?_)) | omega | (simp;done) | (simp;omega)))
    ·have HN1:Hid (noExK l 2):=Lib.hid ⟨HN.out,hex⟩
     have HM1:Hid (max m (fitsS l sh2)=bestK l 2):=Lib.hid (by rw [HM.out];rfl)
     have FF:=Lib.hid (F2.out n)
     by_cases e1:fitsS l sh2=l.length
     ·have d1:((fitsS l sh2:Int) == (l.length:Int))=true:=by rw [beq_iff_eq];omega
      have d2:((fitsS l sh2:Int) == 7)=false:=by rw [beq_eq_false_iff_ne];exact fun h=>hex ⟨e1,by omega⟩
      clear hex e1
      have HM2:=Lib.hid HM
      clear HM
      go_wp2_with (go_at_call 201;refine FF.out.mono ?_;rintro e w3 ⟨rfl,nq,rfl⟩)
      exact ⟨⟨2,n+nq,max m (fitsS l sh2),by omega,by go_num,by rw [cast_max],by simp,HM1,HN1⟩,by simp [intOf]⟩
     ·have d1:((fitsS l sh2:Int) == (l.length:Int))=false:=by rw [beq_eq_false_iff_ne];omega
      clear hex e1
      have HM2:=Lib.hid HM
      clear HM
      go_wp2_with (go_at_call 201;refine FF.out.mono ?_;rintro e w3 ⟨rfl,nq,rfl⟩)
      exact ⟨⟨2,n+nq,max m (fitsS l sh2),by omega,by go_num,by rw [cast_max],by simp,HM1,HN1⟩,by simp [intOf]⟩
   by_cases k2:k=2
   ·subst k2
    by_cases hex:fitsS l sh3=l.length∧fitsS l sh3=9
    ·obtain ⟨hx1,hx2⟩:=hex
     obtain ⟨t0,t1,t2,t3,t4,t5,t6,t7,t8,rfl⟩:=list9 (hx1.symm.trans hx2)
     have E1:Hid (res=(normalS ⟨3,⟨⟨t0.text.toArray⟩,⟨t2.text.toArray⟩⟩,emp,⟨⟨t4.text.toArray⟩,⟨t6.text.toArray⟩⟩,noR,⟨t8.text.toArray⟩⟩,0,0)):=Lib.hid (E.out.trans ((refS_3 _ en HN.out ⟨hx1,hx2⟩).trans (by rw [normal3];rfl)))
     obtain ⟨tb,tof,tc,he,hc,hm,hlt,hx⟩:=hsl2.out.pos (by simp)
     simp only [Value.slice.injEq,true_and] at he
     obtain ⟨rfl,rfl⟩:=he
     have p0:w2.cell? ⟨tb,tof+1,none⟩=some (.string ⟨t0.text.toArray⟩):=(tok_kind hx 0 (by simp)).2.1
     have p2:w2.cell? ⟨tb,tof+6+1,none⟩=some (.string ⟨t2.text.toArray⟩):=(tok_kind hx 2 (by simp)).2.1
     have p4:w2.cell? ⟨tb,tof+12+1,none⟩=some (.string ⟨t4.text.toArray⟩):=(tok_kind hx 4 (by simp)).2.1
     have p6:w2.cell? ⟨tb,tof+18+1,none⟩=some (.string ⟨t6.text.toArray⟩):=(tok_kind hx 6 (by simp)).2.1
     have p8:w2.cell? ⟨tb,tof+24+1,none⟩=some (.string ⟨t8.text.toArray⟩):=(tok_kind hx 8 (by simp)).2.1
     have FF:=Lib.hid (F3.out n)
     rw [hx2] at FF
     have HM2:=Lib.hid HM
     obtain ⟨ca,fa,za⟩:=id HRES.out
     clear hx1 hx2 hx E HM
     go_wp2_with (go_at_call 201;refine FF.out.mono ?_;rintro e w3 ⟨rfl,nq,rfl⟩)
     obtain ⟨w4,hw4⟩:∃ w4,w4=w2.drewN (n+nq):=⟨_,rfl⟩
     have P0:w4.cell? ⟨tb,tof+1,none⟩=some (.string ⟨t0.text.toArray⟩):=by rw [hw4];exact p0
     have P2:w4.cell? ⟨tb,tof+6+1,none⟩=some (.string ⟨t2.text.toArray⟩):=by rw [hw4];exact p2
     have P4:w4.cell? ⟨tb,tof+12+1,none⟩=some (.string ⟨t4.text.toArray⟩):=by rw [hw4];exact p4
     have P6:w4.cell? ⟨tb,tof+18+1,none⟩=some (.string ⟨t6.text.toArray⟩):=by rw [hw4];exact p6
     have P8:w4.cell? ⟨tb,tof+24+1,none⟩=some (.string ⟨t8.text.toArray⟩):=by rw [hw4];exact p8
     have HB4:Hid (Below w2.heap.size w2 w4):=Lib.hid (by rw [hw4];exact below_drewN (Below.refl _ _) _)
     have CA4:=Lib.hid (Blk.below HRES.out HB4.out)
     have hlt4:tb < w4.heap.size:=by rw [hw4];exact hlt
     have qn:∀ (cs:Array Value) (t:TypeId) (o:Nat),(w4.drew.alloc (.cells cs t)).cell? ⟨w4.heap.size,o,none⟩=cs[o]? := fun cs t o=>World.cell?_alloc_at cs t _ o rfl
     have qf:∀ (cs:Array Value) (t:TypeId) (o:Nat),(w4.drew.alloc (.cells cs t)).frozen? ⟨w4.heap.size,o,none⟩=false:=fun cs t o=>(Blk.new w4.drew cs t).2.1 o
     rw [← hw4]
     clear ca fa za p0 p2 p4 p6 p8 hlt hw4
     have hwr:IntKind.i64.wrap 3=3:=by rfl
     go_region_held3 (fun W=>W.cell? ⟨tb,tof+1,none⟩=some (.string ⟨t0.text.toArray⟩)∧W.cell? ⟨tb,tof+6+1,none⟩=some (.string ⟨t2.text.toArray⟩)) (first | exact ⟨P0,P2⟩ | go_keep) (fail)
     try rw [hwr]
     obtain ⟨w5,hw5⟩:∃ w5,w5=(w4.alloc (.cells #[.int .i64 3,.string ⟨t0.text.toArray⟩,.string ⟨t2.text.toArray⟩,.string ⟨#[]⟩,.string ⟨#[]⟩,.string ⟨#[]⟩,.string ⟨#[]⟩,.string ⟨#[]⟩,.string ⟨#[]⟩] 80)).drew:=⟨_,rfl⟩
     have HB5:Hid (Below w2.heap.size w2 w5):=Lib.hid (by rw [hw5];exact below_drew (HB4.out.alloc HB4.out.size _))
     have B5:Blk w5 w4.heap.size #[.int .i64 3,.string ⟨t0.text.toArray⟩,.string ⟨t2.text.toArray⟩,.string ⟨#[]⟩,.string ⟨#[]⟩,.string ⟨#[]⟩,.string ⟨#[]⟩,.string ⟨#[]⟩,.string ⟨#[]⟩]:=by rw [hw5];exact Blk.new w4 _ _
     have R4:w5.cell? ⟨tb,tof+12+1,none⟩=some (.string ⟨t4.text.toArray⟩):=by rw [hw5];exact (World.cell?_alloc_past _ _ _ hlt4).trans P4
     have R6:w5.cell? ⟨tb,tof+18+1,none⟩=some (.string ⟨t6.text.toArray⟩):=by rw [hw5];exact (World.cell?_alloc_past _ _ _ hlt4).trans P6
     have R8:w5.cell? ⟨tb,tof+24+1,none⟩=some (.string ⟨t8.text.toArray⟩):=by rw [hw5];exact (World.cell?_alloc_past _ _ _ hlt4).trans P8
     obtain ⟨ca,fa,za⟩:=Blk.below HRES.out HB5.out
     obtain ⟨cb,fb,zb⟩:=id B5
     have hne:w.heap.size < w4.heap.size:=Nat.lt_of_lt_of_le HRES.out.2.2 HB4.out.size
     have hlt5:tb < w4.heap.size:=hlt4
     rw [← hw5]
     clear hw5 B5 qn qf CA4 P0 P2 P4 P6 P8
     go_wp2_with fail
     refine region_tail 10 (by kernel_rfl) (by kernel_rfl) ?_
     simp only [List.take_succ_cons,List.take_zero,List.drop_succ_cons,List.drop_zero]
     repeat still_step
     refine wpStill_nil ?_
     go_wp2_with fail
     refine (ref3_Normal ⟨3,⟨⟨t0.text.toArray⟩,⟨t2.text.toArray⟩⟩,emp,⟨⟨t4.text.toArray⟩,⟨t6.text.toArray⟩⟩,noR,⟨t8.text.toArray⟩⟩ _).mono ?_
     have hb5:=HB5.out
     have hz4:=HB4.out.size
     have hz5:=HB5.out.size
     rintro e w9 ⟨rfl,hb9⟩
     have hb6:Below w2.heap.size w2 w9:=by
      (repeat' (first | with_reducible exact Below.refl _ _ | with_reducible assumption | with_reducible (refine Below.setCell ?_ ?_ _) | with_reducible (refine Below.alloc ?_ ?_ _) | with_reducible (refine below_drew ?_) | with_reducible (refine below_drewN ?_ _) | with_reducible (refine Below.trans ?_ (Below.mono (by assumption) ?_)) | omega | (simp;done) | (simp;omega)))
     obtain ⟨cc,fc,zc⟩:=Blk.below HRES.out hb6
     clear ca fa za
     generalize normalS ⟨3,⟨⟨t0.text.toArray⟩,⟨t2.text.toArray⟩⟩,emp,⟨⟨t4.text.toArray⟩,⟨t6.text.toArray⟩⟩,noR,⟨t8.text.toArray⟩⟩=nz at *
     obtain ⟨nk,⟨nh1,nh2⟩,nwho,⟨na1,na2⟩,⟨nb1,nb2⟩,nvia⟩:=nz
     go_wp2_with fail
     refine bodyPost_ret (v:=.tuple #[sv ⟨nk,⟨nh1,nh2⟩,nwho,⟨na1,na2⟩,⟨nb1,nb2⟩,nvia⟩,.int .i64 0,.int .i64 0]) (by simp [results,Tryz.results131,go_sem,cc]) rfl ⟨by rw [E1.out],?_⟩
     have hb4:=HBW2.out
     (repeat' (first | with_reducible exact Below.refl _ _ | with_reducible assumption | with_reducible (refine Below.setCell ?_ ?_ _) | with_reducible (refine Below.alloc ?_ ?_ _) | with_reducible (refine below_drew ?_) | with_reducible (refine below_drewN ?_ _) | with_reducible (refine Below.trans ?_ (Below.mono (by assumption) ?_)) | omega | (simp;done) | (simp;omega)))
    ·have HN1:Hid (noExK l 3):=Lib.hid ⟨HN.out.1,HN.out.2,hex⟩
     have HM1:Hid (max m (fitsS l sh3)=bestK l 3):=Lib.hid (by rw [HM.out];rfl)
     have FF:=Lib.hid (F3.out n)
     by_cases e1:fitsS l sh3=l.length
     ·have d1:((fitsS l sh3:Int) == (l.length:Int))=true:=by rw [beq_iff_eq];omega
      have d2:((fitsS l sh3:Int) == 9)=false:=by rw [beq_eq_false_iff_ne];exact fun h=>hex ⟨e1,by omega⟩
      clear hex e1
      have HM2:=Lib.hid HM
      clear HM
      go_wp2_with (go_at_call 201;refine FF.out.mono ?_;rintro e w3 ⟨rfl,nq,rfl⟩)
      exact ⟨⟨3,n+nq,max m (fitsS l sh3),by omega,by go_num,by rw [cast_max],by simp,HM1,HN1⟩,by simp [intOf]⟩
     ·have d1:((fitsS l sh3:Int) == (l.length:Int))=false:=by rw [beq_eq_false_iff_ne];omega
      clear hex e1
      have HM2:=Lib.hid HM
      clear HM
      go_wp2_with (go_at_call 201;refine FF.out.mono ?_;rintro e w3 ⟨rfl,nq,rfl⟩)
      exact ⟨⟨3,n+nq,max m (fitsS l sh3),by omega,by go_num,by rw [cast_max],by simp,HM1,HN1⟩,by simp [intOf]⟩
   by_cases k3:k=3
   ·subst k3
    by_cases hex:fitsS l sh4=l.length∧fitsS l sh4=11
    ·obtain ⟨hx1,hx2⟩:=hex
     obtain ⟨t0,t1,t2,t3,t4,t5,t6,t7,t8,t9,t10,rfl⟩:=list11 (hx1.symm.trans hx2)
     have E1:Hid (res=(normalS ⟨4,⟨⟨t0.text.toArray⟩,⟨t2.text.toArray⟩⟩,emp,⟨⟨t4.text.toArray⟩,⟨t6.text.toArray⟩⟩,⟨⟨t8.text.toArray⟩,⟨t10.text.toArray⟩⟩,emp⟩,0,0)):=Lib.hid (E.out.trans (refS_4 _ en HN.out ⟨hx1,hx2⟩))
     obtain ⟨tb,tof,tc,he,hc,hm,hlt,hx⟩:=hsl2.out.pos (by simp)
     simp only [Value.slice.injEq,true_and] at he
     obtain ⟨rfl,rfl⟩:=he
     have p0:w2.cell? ⟨tb,tof+1,none⟩=some (.string ⟨t0.text.toArray⟩):=(tok_kind hx 0 (by simp)).2.1
     have p2:w2.cell? ⟨tb,tof+6+1,none⟩=some (.string ⟨t2.text.toArray⟩):=(tok_kind hx 2 (by simp)).2.1
     have p4:w2.cell? ⟨tb,tof+12+1,none⟩=some (.string ⟨t4.text.toArray⟩):=(tok_kind hx 4 (by simp)).2.1
     have p6:w2.cell? ⟨tb,tof+18+1,none⟩=some (.string ⟨t6.text.toArray⟩):=(tok_kind hx 6 (by simp)).2.1
     have p8:w2.cell? ⟨tb,tof+24+1,none⟩=some (.string ⟨t8.text.toArray⟩):=(tok_kind hx 8 (by simp)).2.1
     have p10:w2.cell? ⟨tb,tof+30+1,none⟩=some (.string ⟨t10.text.toArray⟩):=(tok_kind hx 10 (by simp)).2.1
     have FF:=Lib.hid (F4.out n)
     rw [hx2] at FF
     have HM2:=Lib.hid HM
     obtain ⟨ca,fa,za⟩:=id HRES.out
     clear hx1 hx2 hx E HM
     go_wp2_with (go_at_call 201;refine FF.out.mono ?_;rintro e w3 ⟨rfl,nq,rfl⟩)
     obtain ⟨w4,hw4⟩:∃ w4,w4=w2.drewN (n+nq):=⟨_,rfl⟩
     have P0:w4.cell? ⟨tb,tof+1,none⟩=some (.string ⟨t0.text.toArray⟩):=by rw [hw4];exact p0
     have P2:w4.cell? ⟨tb,tof+6+1,none⟩=some (.string ⟨t2.text.toArray⟩):=by rw [hw4];exact p2
     have P4:w4.cell? ⟨tb,tof+12+1,none⟩=some (.string ⟨t4.text.toArray⟩):=by rw [hw4];exact p4
     have P6:w4.cell? ⟨tb,tof+18+1,none⟩=some (.string ⟨t6.text.toArray⟩):=by rw [hw4];exact p6
     have P8:w4.cell? ⟨tb,tof+24+1,none⟩=some (.string ⟨t8.text.toArray⟩):=by rw [hw4];exact p8
     have P10:w4.cell? ⟨tb,tof+30+1,none⟩=some (.string ⟨t10.text.toArray⟩):=by rw [hw4];exact p10
     have HB4:Hid (Below w2.heap.size w2 w4):=Lib.hid (by rw [hw4];exact below_drewN (Below.refl _ _) _)
     have CA4:=Lib.hid (Blk.below HRES.out HB4.out)
     have hlt4:tb < w4.heap.size:=by rw [hw4];exact hlt
     have qn:∀ (cs:Array Value) (t:TypeId) (o:Nat),(w4.drew.alloc (.cells cs t)).cell? ⟨w4.heap.size,o,none⟩=cs[o]? := fun cs t o=>World.cell?_alloc_at cs t _ o rfl
     have qf:∀ (cs:Array Value) (t:TypeId) (o:Nat),(w4.drew.alloc (.cells cs t)).frozen? ⟨w4.heap.size,o,none⟩=false:=fun cs t o=>(Blk.new w4.drew cs t).2.1 o
     rw [← hw4]
     clear ca fa za p0 p2 p4 p6 p8 p10 hlt hw4
     have hwr:IntKind.i64.wrap 4=4:=by rfl
     go_region_held3 (fun W=>W.cell? ⟨tb,tof+1,none⟩=some (.string ⟨t0.text.toArray⟩)∧W.cell? ⟨tb,tof+6+1,none⟩=some (.string ⟨t2.text.toArray⟩)) (first | exact ⟨P0,P2⟩ | go_keep) (fail)
     try rw [hwr]
     obtain ⟨w5,hw5⟩:∃ w5,w5=(w4.alloc (.cells #[.int .i64 4,.string ⟨t0.text.toArray⟩,.string ⟨t2.text.toArray⟩,.string ⟨#[]⟩,.string ⟨#[]⟩,.string ⟨#[]⟩,.string ⟨#[]⟩,.string ⟨#[]⟩,.string ⟨#[]⟩] 80)).drew:=⟨_,rfl⟩
     have HB5:Hid (Below w2.heap.size w2 w5):=Lib.hid (by rw [hw5];exact below_drew (HB4.out.alloc HB4.out.size _))
     have B5:Blk w5 w4.heap.size #[.int .i64 4,.string ⟨t0.text.toArray⟩,.string ⟨t2.text.toArray⟩,.string ⟨#[]⟩,.string ⟨#[]⟩,.string ⟨#[]⟩,.string ⟨#[]⟩,.string ⟨#[]⟩,.string ⟨#[]⟩]:=by rw [hw5];exact Blk.new w4 _ _
     have R4:w5.cell? ⟨tb,tof+12+1,none⟩=some (.string ⟨t4.text.toArray⟩):=by rw [hw5];exact (World.cell?_alloc_past _ _ _ hlt4).trans P4
     have R6:w5.cell? ⟨tb,tof+18+1,none⟩=some (.string ⟨t6.text.toArray⟩):=by rw [hw5];exact (World.cell?_alloc_past _ _ _ hlt4).trans P6
     have R8:w5.cell? ⟨tb,tof+24+1,none⟩=some (.string ⟨t8.text.toArray⟩):=by rw [hw5];exact (World.cell?_alloc_past _ _ _ hlt4).trans P8
     have R10:w5.cell? ⟨tb,tof+30+1,none⟩=some (.string ⟨t10.text.toArray⟩):=by rw [hw5];exact (World.cell?_alloc_past _ _ _ hlt4).trans P10
     obtain ⟨ca,fa,za⟩:=Blk.below HRES.out HB5.out
     obtain ⟨cb,fb,zb⟩:=id B5
     have hne:w.heap.size < w4.heap.size:=Nat.lt_of_lt_of_le HRES.out.2.2 HB4.out.size
     have hlt5:tb < w4.heap.size:=hlt4
     rw [← hw5]
     clear hw5 B5 qn qf CA4 P0 P2 P4 P6 P8 P10
     go_wp2_with fail
     refine region_tail 10 (by kernel_rfl) (by kernel_rfl) ?_
     simp only [List.take_succ_cons,List.take_zero,List.drop_succ_cons,List.drop_zero]
     repeat still_step
     refine wpStill_nil ?_
     go_wp2_with fail
     refine region_tail 10 (by kernel_rfl) (by kernel_rfl) ?_
     simp only [List.take_succ_cons,List.take_zero,List.drop_succ_cons,List.drop_zero]
     repeat still_step
     refine wpStill_nil ?_
     go_wp2_with fail
     refine (ref3_Normal ⟨4,⟨⟨t0.text.toArray⟩,⟨t2.text.toArray⟩⟩,emp,⟨⟨t4.text.toArray⟩,⟨t6.text.toArray⟩⟩,⟨⟨t8.text.toArray⟩,⟨t10.text.toArray⟩⟩,emp⟩ _).mono ?_
     have hb5:=HB5.out
     have hz4:=HB4.out.size
     have hz5:=HB5.out.size
     rintro e w9 ⟨rfl,hb9⟩
     have hb6:Below w2.heap.size w2 w9:=by
      (repeat' (first | with_reducible exact Below.refl _ _ | with_reducible assumption | with_reducible (refine Below.setCell ?_ ?_ _) | with_reducible (refine Below.alloc ?_ ?_ _) | with_reducible (refine below_drew ?_) | with_reducible (refine below_drewN ?_ _) | with_reducible (refine Below.trans ?_ (Below.mono (by assumption) ?_)) | omega | (simp;done) | (simp;omega)))
     obtain ⟨cc,fc,zc⟩:=Blk.below HRES.out hb6
     clear ca fa za
     generalize normalS ⟨4,⟨⟨t0.text.toArray⟩,⟨t2.text.toArray⟩⟩,emp,⟨⟨t4.text.toArray⟩,⟨t6.text.toArray⟩⟩,⟨⟨t8.text.toArray⟩,⟨t10.text.toArray⟩⟩,emp⟩=nz at *
     obtain ⟨nk,⟨nh1,nh2⟩,nwho,⟨na1,na2⟩,⟨nb1,nb2⟩,nvia⟩:=nz
     go_wp2_with fail
     refine bodyPost_ret (v:=.tuple #[sv ⟨nk,⟨nh1,nh2⟩,nwho,⟨na1,na2⟩,⟨nb1,nb2⟩,nvia⟩,.int .i64 0,.int .i64 0]) (by simp [results,Tryz.results131,go_sem,cc]) rfl ⟨by rw [E1.out],?_⟩
     have hb4:=HBW2.out
     (repeat' (first | with_reducible exact Below.refl _ _ | with_reducible assumption | with_reducible (refine Below.setCell ?_ ?_ _) | with_reducible (refine Below.alloc ?_ ?_ _) | with_reducible (refine below_drew ?_) | with_reducible (refine below_drewN ?_ _) | with_reducible (refine Below.trans ?_ (Below.mono (by assumption) ?_)) | omega | (simp;done) | (simp;omega)))
    ·have HN1:Hid (noExK l 4):=Lib.hid ⟨HN.out.1,HN.out.2.1,HN.out.2.2,hex⟩
     have HM1:Hid (max m (fitsS l sh4)=bestK l 4):=Lib.hid (by rw [HM.out];rfl)
     have FF:=Lib.hid (F4.out n)
     by_cases e1:fitsS l sh4=l.length
     ·have d1:((fitsS l sh4:Int) == (l.length:Int))=true:=by rw [beq_iff_eq];omega
      have d2:((fitsS l sh4:Int) == 11)=false:=by rw [beq_eq_false_iff_ne];exact fun h=>hex ⟨e1,by omega⟩
      clear hex e1
      have HM2:=Lib.hid HM
      clear HM
      go_wp2_with (go_at_call 201;refine FF.out.mono ?_;rintro e w3 ⟨rfl,nq,rfl⟩)
      exact ⟨⟨4,n+nq,max m (fitsS l sh4),by omega,by go_num,by rw [cast_max],by simp,HM1,HN1⟩,by simp [intOf]⟩
     ·have d1:((fitsS l sh4:Int) == (l.length:Int))=false:=by rw [beq_eq_false_iff_ne];omega
      clear hex e1
      have HM2:=Lib.hid HM
      clear HM
      go_wp2_with (go_at_call 201;refine FF.out.mono ?_;rintro e w3 ⟨rfl,nq,rfl⟩)
      exact ⟨⟨4,n+nq,max m (fitsS l sh4),by omega,by go_num,by rw [cast_max],by simp,HM1,HN1⟩,by simp [intOf]⟩
   obtain rfl:k=4:=by omega
   have E4:=Lib.hid (E.out.trans (refS_end l en HN.out))
   have hm4:m=best l:=HM.out
   have hbl:=best_le l
   obtain ⟨ca,fa,za⟩:=id HRES.out
   have hb4:=HBW2.out
   by_cases hbe:best l=l.length
   ·have E5:=Lib.hid (E4.out.trans (refEnd_yes l en hbe))
    have d1:((m:Int) == (l.length:Int))=true:=by rw [beq_iff_eq];omega
    clear hm4 hbl hbe E E4 HM HN
    go_wp2_with (go_at_call 132;refine (HEnd.out _).mono ?_;rintro e w3 ⟨rfl,rfl⟩)
    refine bodyPost_ret (v:=.tuple #[sv noS,.int .i64 en,.int .i64 3]) (by simp [results,Tryz.results131,go_sem,ca,noS,noR]) rfl ⟨by rw [E5.out],?_⟩
    (repeat' (first | with_reducible exact Below.refl _ _ | with_reducible assumption | with_reducible (refine Below.setCell ?_ ?_ _) | with_reducible (refine Below.alloc ?_ ?_ _) | with_reducible (refine below_drew ?_) | with_reducible (refine below_drewN ?_ _) | with_reducible (refine Below.trans ?_ (Below.mono (by assumption) ?_)) | omega | (simp;done) | (simp;omega)))
   ·have hlb:best l < l.length:=by omega
    have E5:=Lib.hid (E4.out.trans (refEnd_no l en hlb))
    have d1:((m:Int) == (l.length:Int))=false:=by rw [beq_eq_false_iff_ne];omega
    obtain ⟨tb,tof,tc,he,hc,hm,hlt,hx⟩:=hsl2.out.pos (by omega)
    simp only [Value.slice.injEq,true_and] at he
    obtain ⟨rfl,rfl⟩:=he
    subst hm4
    obtain ⟨p0,p1,p2⟩:=tok_kind hx (best l) hlb
    generalize l[best l].col=cl at p2 E5
    generalize best l=bb at *
    have hbg:¬ tb=w.heap.size:=by have:=HLOW.out tb tof rfl;omega
    clear hbl hbe E E4 HM HN hx p0 p1
    go_wp2_with fail
    go_region
    go_wp2_with fail
    refine bodyPost_ret (v:=.tuple #[sv noS,.int .i64 cl,.int .i64 2]) (by simp [results,Tryz.results131,go_sem,ca,noS,noR]) rfl ⟨by rw [E5.out],?_⟩
    (repeat' (first | with_reducible exact Below.refl _ _ | with_reducible assumption | with_reducible (refine Below.setCell ?_ ?_ _) | with_reducible (refine Below.alloc ?_ ?_ _) | with_reducible (refine below_drew ?_) | with_reducible (refine below_drewN ?_ _) | with_reducible (refine Below.trans ?_ (Below.mono (by assumption) ?_)) | omega | (simp;done) | (simp;omega)))
 ·replace E:=Lib.hid (E.out.trans (parseT_bad hy))
  have d:(y != 0)=true:=by simp [hy]
  clear hy
  obtain ⟨ca,fa,za⟩:=id hres
  go_wp2
  refine bodyPost_ret (v:=.tuple #[sv noS,.int .i64 i,.int .i64 y]) (by simp [results,Tryz.results131,go_sem,ca,noS,noR]) rfl ⟨by rw [E.out],?_⟩
  have hb4:=hbw1
  (repeat' (first | with_reducible exact Below.refl _ _ | with_reducible assumption | with_reducible (refine Below.setCell ?_ ?_ _) | with_reducible (refine Below.alloc ?_ ?_ _) | with_reducible (refine below_drew ?_) | with_reducible (refine below_drewN ?_ _) | with_reducible (refine Below.trans ?_ (Below.mono (by assumption) ?_)) | omega | (simp;done) | (simp;omega)))
end
section
open Go.RowKit Go.Shelf

end
section
open Go.RowKit Go.Shelf

theorem tx_nt {a b:ByteArray} (h:¬ a=b):(a.toList != bl b)=true:=by unfold bne;rw [tx_ne h];rfl
theorem tx_nf {a b:ByteArray} (h:a=b):(a.toList != bl b)=false:=by unfold bne;rw [tx_eq h];rfl
theorem RowsTwo.one {w0 w:World} {e:TypeId} {size n1 m:Nat} {v1:Value} {x1 cs:List Value} (hb:Below w0.heap.size w0 w) (h:w.ownsRow w0.heap.size e size v1 n1 x1) (hl:cs.length=m * size) (hm:m≤maxLen) :
  RowsTwo w0 e size v1 n1 x1 (.slice (some ⟨w.heap.size,0,none⟩) m m) m cs (w.alloc (.cells cs.toArray e)) :=
 ⟨hb.alloc hb.size _,h.alloc _,⟨hl,.inr ⟨w.heap.size,m,cs.toArray,rfl,hb.size,heap_alloc_new w _,Nat.le_refl _,hm,by simpa using hl,by rw [← hl,List.take_length]⟩⟩,fun k hk he=>by
  have:=(h.lt k hk.symm).2
  injection he with he
  dsimp only at he
  omega⟩
theorem own_alloc1 {w0 w:World} {e:TypeId} {size m:Nat} {cs:List Value} (hb:w0.heap.size≤w.heap.size) (hl:cs.length=m * size) (hm:m≤maxLen):(w.alloc (.cells cs.toArray e)).ownsRow w0.heap.size e size (.slice (some ⟨w.heap.size,0,none⟩) m m) m cs :=
 ⟨hl,.inr ⟨w.heap.size,m,cs.toArray,rfl,hb,heap_alloc_new w _,Nat.le_refl _,hm,by simpa using hl,by rw [← hl,List.take_length]⟩⟩
def SlV (u:Value):Prop:=∃ a n c,u=.slice a n c
def LineR (y:Pd × Int × Int) (w:World) (e:Ending) (w':World):Prop :=
 ∃ u0 u1 u2 u3 zs,e=.returned (.tuple #[pv u0 u1 u2 u3,.int .i64 y.2.1,.int .i64 y.2.2])∧(SlV u0∧SlV u1∧SlV u2∧SlV u3)∧(y.2.2=0→PolD w' u0 u1 u2 u3 y.1 zs)∧Below w.heap.size w w'
theorem PolD.ask {w:World} {v0 v1 v2 v3 u v:Value} {p:Pd} {zs:List (Qd × Value)} {q:Qd} {n:Nat} {xs:List Value} (h:PolD w v0 v1 v2 v3 p zs) (hq:SlA w 6 u n xs) (hn:n=zs.length+1) (hx:xs=(zs.map qz).flatMap Qv.cells++(qz (q,v)).cells) (hw:SlA w 1 v q.us.length (strs q.us)) :
  PolD w v0 v1 v2 u { p with q:=p.q++[q] } (zs++[(q,v)]):=by
 subst hn hx
 refine ⟨by simp [h.z],h.rs,h.rg,h.rh,?_,fun z hz=>?_⟩
 ·have e1:(zs++[(q,v)]).length=zs.length+1:=by simp
  have e2:((zs++[(q,v)]).map qz).flatMap Qv.cells=(zs.map qz).flatMap Qv.cells++(qz (q,v)).cells:=by simp
  rw [e1,e2]
  exact hq
 ·rcases List.mem_append.1 hz with hz | hz
  ·exact h.rw z hz
  ·obtain rfl:=List.mem_singleton.1 hz
   exact hw
theorem PolD.l {w:World} {v0 v1 v2 v3 u:Value} {p:Pd} {zs:List (Qd × Value)} {l:List St} (h:PolD w v0 v1 v2 v3 p zs) (hu:SlA w 9 u l.length (l.flatMap St.cells)):PolD w u v1 v2 v3 { p with l:=l } zs:=⟨h.z,hu,h.rg,h.rh,h.rq,h.rw⟩
theorem PolD.g {w:World} {v0 v1 v2 v3 u:Value} {p:Pd} {zs:List (Qd × Value)} {l:List Rl} (h:PolD w v0 v1 v2 v3 p zs) (hu:SlA w 2 u l.length (l.flatMap Rl.cells)):PolD w v0 u v2 v3 { p with g:=l } zs:=⟨h.z,h.rs,hu,h.rh,h.rq,h.rw⟩
theorem PolD.hh {w:World} {v0 v1 v2 v3 u:Value} {p:Pd} {zs:List (Qd × Value)} {l:List Rl} (h:PolD w v0 v1 v2 v3 p zs) (hu:SlA w 2 u l.length (l.flatMap Rl.cells)):PolD w v0 v1 u v3 { p with h:=l } zs:=⟨h.z,h.rs,h.rg,hu,h.rq,h.rw⟩
theorem PolD.one {w:World} {v0 v1 v2 v3:Value} {p:Pd} {zs:List (Qd × Value)} (h:PolD w v0 v1 v2 v3 p zs):∀ u∈(zs.map qz).flatMap Qv.cells,u.oneCell'=true:=fun u hu=>by
 obtain ⟨q,hq,hu⟩:=List.mem_flatMap.1 hu
 obtain ⟨z,hz,rfl⟩:=List.mem_map.1 hq
 obtain ⟨a,c,e⟩:=(h.rw z hz).form
 exact qv_one (qz z) ⟨a,_,c,e⟩ u hu
theorem own_low {w:World} {B size n g o:Nat} {e:TypeId} {v x:Value} {xs:List Value} (h:w.ownsRow B e size v n xs) (hg:g < B):(w.setCell ⟨g,o,none⟩ x).ownsRow B e size v n xs :=
 (Kp.set (X:=fun k=>k=g) rfl).own h (fun k hk e=>by have:=(h.lt k hk).1;omega)
theorem own_lows {B size n g:Nat} {e:TypeId} {v:Value} {xs:List Value} (hg:g < B):∀ (vs:List Value) (o:Nat) (w:World),w.ownsRow B e size v n xs→(puts w g o vs).ownsRow B e size v n xs
 | [],_,_,h=>h
 | _ :: vs,o,_,h=>own_lows hg vs (o+1) _ (own_low h hg)
theorem blkS4 {w:World} {g:Nat} {x0 x1 x2 x3:Value} (h:Blk w g #[x0,x1,x2,x3]) (h0:isSl x0=true) (h1:isSl x1=true) (h2:isSl x2=true) (h3:isSl x3=true):BlkS w g 4 :=
 ⟨_,h,rfl,fun c hc=>by
  simp only [List.mem_cons,List.not_mem_nil,or_false] at hc
  rcases hc with rfl | rfl | rfl | rfl <;> assumption⟩
theorem lineT_growL {p:Pd} {s:ByteArray} {l:List Tok} {i:Int} (h0:0 < l.length) (h:¬ (txQ l 0=wAlways∨txQ l 0=wCan)) (h2:txQ l 0=wGrow) :
  lineT p s (l,i,0)=({ p with g:=insAllR [] (p.g++[(boundT l (endOf s)).1]) },(boundT l (endOf s)).2):=by
 cases l with
 | nil=>exact absurd h0 (by simp)
 | cons x r=>exact lineT_grow h h2
theorem lineT_shrinkL {p:Pd} {s:ByteArray} {l:List Tok} {i:Int} (h0:0 < l.length) (h:¬ (txQ l 0=wAlways∨txQ l 0=wCan)) (h2:¬ txQ l 0=wGrow) (h3:txQ l 0=wShrink) :
  lineT p s (l,i,0)=({ p with h:=insAllR [] (p.h++[(boundT l (endOf s)).1]) },(boundT l (endOf s)).2):=by
 cases l with
 | nil=>exact absurd h0 (by simp)
 | cons x r=>exact lineT_shrink h h2 h3
end
end Go.Proofs.YtomhekohcadijaaGreatDoor
