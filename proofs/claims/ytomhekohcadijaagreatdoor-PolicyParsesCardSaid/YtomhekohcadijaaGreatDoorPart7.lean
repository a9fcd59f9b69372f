/- Parts: RlSort RlSame StOf Law10R RegSkip RefRight5 StrLaw TabLaw StrSort TabNew TabFns TabFind TabTbl RefTab -/
import Derived.Test.YtomhekohcadijaaGreatDoorPart6
import Derived.Deep.RegionLawGrows
import Derived.Test.YtomhekohcadijaaGreatDoorPart1
import Derived.Deep.RegionHeld3
import Derived.Test.YtomhekohcadijaaGreatDoorPart3
import Derived.Test.YtomhekohcadijaaGreatDoorPart4
import Derived.Lib.SlicesCompact
import Derived.Lib.RowBridge
import Derived.Sort.Walk0
import Derived.Sort.EncStr
import Derived.Test.YtomhekohcadijaaGreatDoorShelf
import Derived.Sort.OwnSorted
import Derived.Sort.Grow
import Derived.Lib.OwnBridge
namespace Go.Proofs.YtomhekohcadijaaGreatDoor
section
open Go.RowKit Go.Shelf
def posSR:List Rl→Rl→Nat
 | [],_=>0
 | a :: r,x=>if cmpR a x < 0 then posSR r x+1 else 0
def insAtR (l:List Rl) (x:Rl) (k:Nat):List Rl:=l.take k++x :: l.drop k
def insSR (l:List Rl) (x:Rl):List Rl:=if hasR l x then l else insAtR l x (posSR l x)
def insAllR:List Rl→List Rl→List Rl
 | acc,[]=>acc
 | acc,x :: l=>insAllR (insSR acc x) l
theorem pos_leR:∀ (l:List Rl) (x:Rl),posSR l x≤l.length
 | [],_=>Nat.le_refl _
 | a :: r,x=>by unfold posSR;have:=pos_leR r x;split <;> simp <;> omega
theorem pos_ofR:∀ (l:List Rl) (x:Rl) (k:Nat),k≤l.length→(∀ j (hj:j < l.length),j < k→cmpR l[j] x < 0)→(∀ hk:k < l.length,¬ cmpR l[k] x < 0)→posSR l x=k
 | [],x,k,hk,_,_=>by simp at hk;subst hk;rfl
 | a :: r,x,0,_,_,h=>by
  have h':¬ cmpR a x < 0:=h (by simp)
  unfold posSR;rw [if_neg h']
 | a :: r,x,k+1,hk,h1,h2=>by
  have h':cmpR a x < 0:=h1 0 (by simp) (by omega)
  unfold posSR
  rw [if_pos h',pos_ofR r x k (by simpa using hk) (fun j hj hjk=>h1 (j+1) (by simp;omega) (by omega)) (fun hk'=>h2 (by simp;omega))]
theorem insS_lenR (l:List Rl) (x:Rl):(insSR l x).length≤l.length+1:=by
 unfold insSR insAtR;split
 ·omega
 ·simp [List.length_take,List.length_drop];have:=pos_leR l x;omega
theorem insAll_stepR (acc l:List Rl) (k:Nat) (hk:k < l.length):insAllR acc (l.drop k)=insAllR (insSR acc l[k]) (l.drop (k+1)):=by
 rw [List.drop_eq_getElem_cons hk];rfl
theorem insAll_endR (acc l:List Rl) (k:Nat) (hk:¬ k < l.length):insAllR acc (l.drop k)=acc:=by
 rw [List.drop_eq_nil_of_le (by omega)];rfl
theorem insS_hasR {l:List Rl} {x:Rl} (h:hasR l x=true):insSR l x=l:=if_pos h
theorem insS_notR {l:List Rl} {x:Rl} (h:hasR l x=false):insSR l x=insAtR l x (posSR l x):=if_neg (by rw [h];exact Bool.false_ne_true)

theorem flat_dropR (l:List Rl) (j:Nat) (hj:j≤l.length) (i:Nat):((l.drop j).flatMap Rl.cells)[i]? = (l.flatMap Rl.cells)[j * 2+i]? := by
 have h:=List.take_append_drop j l
 have e:(l.flatMap Rl.cells)=(l.take j).flatMap Rl.cells++(l.drop j).flatMap Rl.cells:=by rw [← List.flatMap_append,h]
 have hl:((l.take j).flatMap Rl.cells).length=j * 2:=by rw [flat_len _ 2 Rl.cells_len,List.length_take];congr 1;omega
 rw [e,List.getElem?_append_right (by omega),hl]
 congr 1;omega
theorem flat_takeR (l:List Rl) (j:Nat) (i:Nat) (u:Value) (h:((l.take j).flatMap Rl.cells)[i]? = some u):(l.flatMap Rl.cells)[i]? = some u:=by
 have e:(l.flatMap Rl.cells)=(l.take j).flatMap Rl.cells++(l.drop j).flatMap Rl.cells:=by rw [← List.flatMap_append,List.take_append_drop]
 rw [e]
 have hi:=(List.getElem?_eq_some_iff.1 h).1
 rw [List.getElem?_append_left hi];exact h
theorem take_len9R (l:List Rl) (j:Nat) (hj:j≤l.length):((l.take j).flatMap Rl.cells).length=j * 2:=by
 rw [flat_len _ 2 Rl.cells_len,List.length_take];congr 1;omega
theorem drop_len9R (l:List Rl) (j:Nat):((l.drop j).flatMap Rl.cells).length=(l.length - j) * 2:=by
 rw [flat_len _ 2 Rl.cells_len,List.length_drop]
theorem sl_appR {l:List Rl} {x:Rl} {j:Nat} (_:j≤l.length):(l.take j).flatMap Rl.cells++x.cells++(l.drop j).flatMap Rl.cells=(insAtR l x j).flatMap Rl.cells:=by
 unfold insAtR;rw [List.flatMap_append,List.flatMap_cons,List.append_assoc]
theorem insAt_lenR {l:List Rl} {x:Rl} {j:Nat} (hj:j≤l.length):(insAtR l x j).length=j+1+(l.length - j):=by
 unfold insAtR;rw [List.length_append,List.length_cons,List.length_take,List.length_drop];omega
theorem app_endR {l:List Rl} {x:Rl}:l.flatMap Rl.cells++x.cells=(insAtR l x l.length).flatMap Rl.cells:=by
 have h:=sl_appR (l:=l) (x:=x) (j:=l.length) (Nat.le_refl _)
 rw [List.take_of_length_le (Nat.le_refl _),List.drop_of_length_le (Nat.le_refl _)] at h
 rw [← h];simp
theorem insAt_endR {l:List Rl} {x:Rl}:(insAtR l x l.length).length=l.length+1:=by rw [insAt_lenR (Nat.le_refl _)];omega
abbrev Two (w:World) (b o:Nat) (s:Rl):Prop:=w.cell? ⟨b,o,none⟩=some (.string s.o)∧w.cell? ⟨b,o+1,none⟩=some (.string s.n)
theorem ref3_LessD (x y:Rl) (w:World):Calls Tryz.prog 58 #[rv x,rv y] w fun e w'=>e=.returned (.bool (decide (cmpR x y < 0)))∧Below w.heap.size w w':=ref3_Less x y w
theorem Two.below {w w':World} {b o:Nat} {s:Rl} (h:Two w b o s) (hb:b < w.heap.size) (hw:Below w.heap.size w w'):Two w' b o s:=by
 have k:∀ i,w'.cell? ⟨b,i,none⟩=w.cell? ⟨b,i,none⟩:=fun i=>hw.cell (p:=⟨b,i,none⟩) hb
 obtain ⟨h0,h1⟩:=h
 exact ⟨(k _).trans h0,(k _).trans h1⟩
set_option maxRecDepth 100000 in
set_option maxHeartbeats 8000000 in
theorem ref5_Sort (va:Value) (l:List Rl) (w:World) (ha:SlA w 2 va l.length (l.flatMap Rl.cells)) (hl:l.length≤1000) :
  Calls Tryz.prog 18 #[va] w fun e w' => ∃ v,e=.returned v∧Sl w' 2 v (insAllR [] l).length ((insAllR [] l).flatMap Rl.cells)∧Below w.heap.size w w':=by
 by_cases h0:0 < l.length
 ·obtain ⟨b1,o1,c1,rfl,hc1,hm1,hb1,hx1⟩:=ha.pos h0
  have HX1:=Lib.hid hx1
  clear ha hx1
  go_enter Tryz.func18,Tryz.ntmps18
  go_wp2
  go_loopw [3,10] (fun vo i wr => ∃ (k:Nat) (acc:List Rl),k≤l.length∧acc.length≤k∧i=.int .i64 k∧Below w.heap.size w wr∧Sl wr 2 vo acc.length (acc.flatMap Rl.cells)∧Hid (insAllR [] l=insAllR acc (l.drop k))) (fun _ i _=>l.length - (intOf i).toNat)
  case atStart=>exact ⟨0,[],by omega,by simp,rfl,Below.refl _ _,Sl.nil _ _,Lib.hid (by simp)⟩
  case round =>
   obtain ⟨k,acc,hk,hak,rfl,hbw,hso,HI⟩:=hrel
   have HBW:=Lib.hid hbw
   have HSO:=Lib.hid hso
   have hz:=hbw.size
   by_cases hlt:k < l.length
   ·obtain ⟨p0,p1⟩:=rl_cell (w:=wr) (fun j u hu=>(hbw.cell (p:=⟨b1,o1+j,none⟩) hb1).trans (HX1.out j u hu)) k hlt
    have hbr:b1 < wr.heap.size:=Nat.lt_of_lt_of_le hb1 hz
    have HST:=Lib.hid (HI.out.trans (insAll_stepR acc l k hlt))
    have hx:l[k]=⟨l[k].o,l[k].n⟩:=rfl
    generalize l[k].o=x1 at *
    generalize l[k].n=x2 at *
    rw [hx] at HST
    clear hx hbw hso HI
    obtain ⟨ao,co,rfl⟩:=HSO.out.form
    go_wp2_with fail
    have HX:=Lib.hid (Blk.new wr #[.string x1,.string x2] 78)
    have HS2:=Lib.hid (HSO.out.below ((Below.refl wr.heap.size wr).alloc (Nat.le_refl _) (.cells #[.string x1,.string x2] 78)))
    refine (ref5_Has _ acc ⟨x1,x2⟩ _ HS2.out.a).mono ?_
    rintro e w2 ⟨rfl,hb2⟩
    have HX2:=Lib.hid (HX.out.below hb2)
    have HS3:=Lib.hid (HS2.out.below hb2)
    have HB2:=Lib.hid ((HBW.out.alloc HBW.out.size _).trans (hb2.mono (Nat.le_trans HBW.out.size (by simp))))
    have hz2:=HB2.out.size
    clear hb2 HX HS2 HSO p0 p1
    cases hh:hasR acc ⟨x1,x2⟩ with
    | true =>
     have HE:=Lib.hid (HST.out.trans (by rw [insS_hasR hh]))
     clear hh
     go_wp2_with fail
     exact ⟨⟨k+1,acc,by omega,by omega,by go_num,HB2.out,HS3.out,HE⟩,by simp [intOf];omega⟩
    | false =>
     have HE:=Lib.hid (HST.out.trans (by rw [insS_notR hh]))
     clear hh HST
     obtain ⟨g,hg⟩:∃ g,wr.heap.size=g:=⟨_,rfl⟩
     rw [hg] at HX2 ⊢
     clear hg hbr HBW hz
     go_wp2_with fail
     go_loopw [6] (fun i wr => ∃ j:Nat,j≤acc.length∧i=.int .i64 j∧Below w2.heap.size w2 wr∧Hid (∀ m (hm:m < acc.length),m < j→cmpR acc[m] ⟨x1,x2⟩ < 0)) (fun i _=>acc.length - (intOf i).toNat)
     case atStart=>exact ⟨0,by omega,rfl,Below.refl _ _,Lib.hid (fun _ _ h=>absurd h (by omega))⟩
     case round =>
      obtain ⟨j,hj,rfl,hbj,HJ⟩:=hrel
      have HBJ:=Lib.hid hbj
      by_cases hjl:j < acc.length
      ·obtain ⟨b2,o2,c2,he2,hc2,hm2,hb2,hx2⟩:=HS3.out.pos (by omega)
       simp only [Value.slice.injEq,true_and] at he2
       obtain ⟨rfl,rfl⟩:=he2
       obtain ⟨q0,q1⟩:=rl_cell (w:=wr) (fun m u hu=>(hbj.cell (p:=⟨b2,o2+m,none⟩) hb2).trans (hx2 m u hu)) j hjl
       have hbj2:b2 < wr.heap.size:=Nat.lt_of_lt_of_le hb2 hbj.size
       have HX3:=HX2.out.below hbj
       have cx:=HX3.1
       have HBF:=fun W=>ref3_LessD acc[j] ⟨x1,x2⟩ W
       have d:decide ((j:Int) < (acc.length:Int))=true:=by (rw [decide_eq_true_iff];omega)
       have HX4:Blk wr.drew g #[.string x1,.string x2]:=HX3
       have HQ4:Two wr.drew b2 (o2+j * 2) acc[j]:=⟨q0,q1⟩
       have HB4:Below w2.heap.size w2 wr.drew:=below_drew hbj
       clear hx2 hbj
       cases hlt':decide (cmpR acc[j] ⟨x1,x2⟩ < 0) with
       | true =>
        have HN:Hid (∀ m (hm:m < acc.length),m < j+1→cmpR acc[m] ⟨x1,x2⟩ < 0):=Lib.hid (fun m hm hmj=>by
         by_cases hmj':m < j
         ·exact HJ.out m hm hmj'
         ·obtain rfl:m=j:=by omega
          exact of_decide_eq_true hlt')
        rw [hlt'] at HBF
        clear hlt'
        go_wp2_with fail
        go_region_held3 (fun W=>(∀ o,W.cell? ⟨g,o,none⟩=(#[.string x1,.string x2]:Array Value)[o]?)∧Two W b2 (o2+j * 2) acc[j])
         (first | exact ⟨HX4.1,HQ4⟩ | go_keep)
         ((go_at_call 58;refine (HBF _).mono ?_;rintro e wq ⟨rfl,hbq⟩;have HQ4:=HQ4.below hbj2 hbq;have HX4:=HX4.below hbq;have HB4:=HB4.trans (hbq.mono HB4.size)))
        go_wp2
        exact ⟨⟨j+1,by omega,by go_num,HB4,HN⟩,by simp [intOf];omega⟩
       | false =>
        have HLT:=Lib.hid hlt'
        rw [hlt'] at HBF
        clear hlt'
        go_wp2_with fail
        go_region_held3 (fun W=>(∀ o,W.cell? ⟨g,o,none⟩=(#[.string x1,.string x2]:Array Value)[o]?)∧Two W b2 (o2+j * 2) acc[j])
         (first | exact ⟨HX4.1,HQ4⟩ | go_keep)
         ((go_at_call 58;refine (HBF _).mono ?_;rintro e wq ⟨rfl,hbq⟩;have HQ4:=HQ4.below hbj2 hbq;have HX4:=HX4.below hbq;have HB4:=HB4.trans (hbq.mono HB4.size)))
        have hsb:=(HS3.out.below HB4).pos (by omega)
        obtain ⟨b3,o3,c3,he3,hc3,hm3,hb3,hx3⟩:=hsb
        simp only [Value.slice.injEq,Option.some.injEq,Addr.mk.injEq,true_and,and_true] at he3
        obtain ⟨⟨rfl,rfl⟩,rfl⟩:=he3
        have HSB:=Lib.hid hx3
        clear hx3
        go_wp2_with (at_builtin;refine halt_ ?_)
        unfold Halt_
        refine app_grow Tryz.underlying23 rl_info' rfl (by decide) (by decide) rfl _ _ rfl (ao:=some ⟨wq.heap.size,0,none⟩) (n:=0) (cap:=0) (olds:=[]) rfl (by simp) (by simp) (by simp) (b:=b2) (off:=o2+j * 2) (m:=acc.length - j) (c:=co - j) (news:=(acc.drop j).flatMap Rl.cells) rfl ?_ ?_ (rls_one _) (by omega) (by omega) ?_
        ·rw [flat_len _ 2 Rl.cells_len,List.length_drop]
        ·intro i u hu
         rw [flat_dropR acc j hj] at hu
         have:=HSB.out _ _ hu
         rw [← Nat.add_assoc] at this
         exact (World.cell?_alloc_past _ _ _ hb3).trans this
        intro v5 w5 hown5 hb5
        have hwq:wq.heap.size < (wq.alloc (.cells #[] 78)).heap.size:=by simp
        have HX5:Blk w5 g #[.string x1,.string x2]:=(HX4.alloc _).below hb5
        have hh5:b2 < w5.heap.size:=Nat.lt_of_lt_of_le hb3 (Nat.le_trans (Nat.le_of_lt hwq) hb5.size)
        have HS5:∀ i u,(acc.flatMap Rl.cells)[i]? = some u→w5.cell? ⟨b2,o2+i,none⟩=some u:=fun i u hu=>(hb5.cell (p:=⟨b2,o2+i,none⟩) (Nat.lt_trans hb3 hwq)).trans ((World.cell?_alloc_past _ _ _ hb3).trans (HSB.out i u hu))
        have HB5:Below w2.heap.size w2 w5:=(HB4.alloc HB4.size _).trans (hb5.mono (Nat.le_trans HB4.size (Nat.le_of_lt hwq)))
        simp only [Nat.zero_add,List.nil_append] at hown5
        obtain ⟨g5,c5,rfl,hg5a,hg5b⟩:=hown5.form (show 0 < acc.length - j by omega)
        have HO5:=Lib.hid hown5
        have HB5':=Lib.hid HB5
        obtain ⟨inf,hi,hz0,hz1,hz2⟩:=info_parts rl_info'
        have HINF:=Lib.hid hi
        have HX6:Blk w5.drew g #[.string x1,.string x2]:=HX5
        have HSX:=Lib.hid (fun i u (hu:(acc.flatMap Rl.cells)[i]? = some u)=>show w5.drew.cell? ⟨b2,o2+i,none⟩=some u from HS5 i u hu)
        have HOD:=Lib.hid (show w5.drew.ownsRow _ _ 2 _ _ _ from hown5)
        have c5x:=HX5.1
        have hgb:g < (w5.drew.alloc (.cells #[.string x1,.string x2] 78)).heap.size:=Nat.lt_of_lt_of_le HX6.2.2 (((Below.refl _ w5.drew).alloc (Nat.le_refl _) _).size)
        have hi1:(0:Int)≤(j:Int):=by omega
        have hi2:(j:Int)≤(acc.length:Int):=by omega
        have hi3:(j:Int)≤(co:Int):=by omega
        clear hown5 hb5 HS5 HB5 HX5 HX4 HB4 HQ4 hi HBF hwq hb3 hbq cx HX3 q0 q1 d
        go_wp2_with fail
        go_region_held3 (fun W => ∀ o,W.cell? ⟨g,o,none⟩=(#[.string x1,.string x2]:Array Value)[o]?)
         (first | exact HX6.1 | exact (HX6.alloc _).1 | exact HX7.1 | exact HX9.1 | go_keep)
         (first
          | (refine step_append_grows rfl _ _ 23 rfl 78 inf _ 2 32 Tryz.underlying23 HINF.out hz0 hz1 hz2 rfl (Nat.le_of_ble_eq_true rfl) (some ⟨b2,o2,none⟩) j j ((acc.take j).flatMap Rl.cells) rfl ?_ (take_len9R acc j hj) ?_ ⟨w5.heap.size,0,none⟩ 1 1 (Rl.cells ⟨x1,x2⟩) rfl rfl ?_ (rl1 x1 x2) (Nat.lt_succ_self _) ?_ ?_ ?_;(intro h;cases h);(intro b hb i u hu;cases hb;rw [addr_add];exact (World.cell?_alloc_past _ _ _ hh5).trans (HSX.out i u (flat_takeR acc j i u hu)));exact cells_new _ _ _ _ rfl;(simp only [maxLen];omega);omega;intro v7 w7 hown7 hg7;have hb7:=below_of_none hg7;have HX7:=(HX6.alloc _).below hb7;have HO7:=own_below (own_below HOD.out ((Below.refl _ _).alloc (Nat.le_refl _) _)) hb7)
          | (refine step_append_lies _ rfl _ _ 23 rfl _ 78 inf _ 2 32 Tryz.underlying23 HINF.out hz0 hz1 hz2 rfl (Nat.le_of_ble_eq_true rfl) v7 (j+1) _ rfl hown7 ⟨g5,0,none⟩ (acc.length - j) c5 ((acc.drop j).flatMap Rl.cells) rfl (drop_len9R acc j) (HO7.cells (g:=g5) rfl) (rls_one _) ?_ ?_ ?_ hb7.size _ rfl ?_;omega;(simp only [maxLen];omega);omega;intro g9 c9 w9 hown9 hg9 hor9 hlt9;have HX9:=HX7.grown hg9 (own_gt_ne hown7 hgb)))
        have HBw5:=HB2.out.trans (HB5'.out.mono HB2.out.size)
        have HBw6:=(below_drew HBw5).alloc (B:=w.heap.size) HBw5.size (.cells #[.string x1,.string x2] 78)
        have HBw7:=HBw6.trans (hb7.mono HBw6.size)
        have HB9:=Lib.hid (below_own HBw7 hown7 hg9 HBw7.size HBw6.size)
        have HSL9:=Lib.hid (Sl.of_own hown9)
        have HPS:=Lib.hid (pos_ofR acc ⟨x1,x2⟩ j hj HJ.out (fun _=>of_decide_eq_false HLT.out))
        clear hown9 hg9 hown7 hg7 hb7 HX9 HX7 HO7 HBw5 HBw6 HBw7
        go_wp2
        exact ⟨⟨k+1,insAtR acc ⟨x1,x2⟩ j,by omega,by rw [insAt_lenR hj];omega,by go_num,HB9.out,by rw [insAt_lenR hj,← sl_appR hj];exact HSL9.out,Lib.hid (by rw [HE.out,HPS.out])⟩,by simp [intOf];omega⟩
      ·obtain rfl:j=acc.length:=by omega
       have HPS:=Lib.hid (pos_ofR acc ⟨x1,x2⟩ acc.length (Nat.le_refl _) HJ.out (fun h=>absurd h hjl))
       obtain ⟨inf,hi,hz0,hz1,hz2'⟩:=info_parts rl_info'
       have HINF:=Lib.hid hi
       have HX3:=HX2.out.below hbj
       have cx:=HX3.1
       have d:decide ((acc.length:Int) < (acc.length:Int))=false:=by (rw [decide_eq_false_iff_not];omega)
       clear hi hjl hj
       rcases HS3.out.2.2 with ⟨hv,hn0⟩ | ⟨b2,o2,c2,hv,hc2,hm2,hb2,hx2⟩
       ·skip
        have hacc:acc=[]:=List.eq_nil_of_length_eq_zero hn0
        simp only [Value.slice.injEq] at hv
        obtain ⟨rfl,-,rfl⟩:=hv
        simp only [hn0]
        clear d
        clear hbj
        go_wp2_with fail
        go_big_quiet (fail)
        go_wp2_with (at_builtin;refine halt_ ?_)
        unfold Halt_
        refine app_zero _ rfl _ _ 23 rfl 78 inf Tryz.underlying23 HINF.out (some ⟨wr.heap.size,0,none⟩) 0 0 (Nat.le_refl _) rfl _ _ rfl ?_
        obtain ⟨w5,hw5⟩:∃ w5,w5=(wr.drewN nq).alloc (.cells #[] 78):=⟨_,rfl⟩
        have hb5:Below wr.heap.size wr w5:=by rw [hw5];exact (below_drewN (Below.refl _ _) _).alloc (Nat.le_refl _) _
        have hh0:wr.heap.size≤w5.heap.size:=hb5.size
        rw [← hw5]
        have HX5:Blk w5 g #[.string x1,.string x2]:=HX3.below hb5
        have HB5':=Lib.hid (HBJ.out.trans (hb5.mono HBJ.out.size))
        have HX6:Blk w5.drew g #[.string x1,.string x2]:=HX5
        have c5x:=HX5.1
        have hgb:g < (w5.drew.alloc (.cells #[.string x1,.string x2] 78)).heap.size:=Nat.lt_of_lt_of_le HX6.2.2 (((Below.refl _ w5.drew).alloc (Nat.le_refl _) _).size)
        clear hw5 hb5 HX5 HX3 cx
        go_wp2_with fail
        go_region_held3 (fun W => ∀ o,W.cell? ⟨g,o,none⟩=(#[.string x1,.string x2]:Array Value)[o]?)
         (first | exact HX6.1 | exact (HX6.alloc _).1 | exact HX7.1 | go_keep)
         (first
          | (refine step_append_grows rfl _ _ 23 rfl 78 inf _ 2 32 Tryz.underlying23 HINF.out hz0 hz1 hz2' rfl (Nat.le_of_ble_eq_true rfl) none 0 0 [] rfl ?_ rfl ?_ ⟨w5.heap.size,0,none⟩ 1 1 (Rl.cells ⟨x1,x2⟩) rfl rfl ?_ (rl1 x1 x2) (Nat.lt_succ_self _) ?_ ?_ ?_;(intro _;exact ⟨rfl,rfl⟩);(intro b hb;cases hb);exact cells_new _ _ _ _ rfl;(simp only [maxLen];omega);omega;intro v7 w7 hown7 hg7;obtain ⟨a7,c7,rfl,hc7⟩:=own_form2 hown7;have hb7:=below_of_none hg7;have HX7:=(HX6.alloc _).below hb7)
          | (refine step_zero _ rfl _ _ 23 rfl 78 inf Tryz.underlying23 HINF.out _ _ c7 hc7 rfl _ _ rfl ?_))
        have HBw5:=HB2.out.trans (HB5'.out.mono HB2.out.size)
        have HBw6:=(below_drew HBw5).alloc (B:=w.heap.size) HBw5.size (.cells #[.string x1,.string x2] 78)
        have HB9:=Lib.hid (HBw6.trans (hb7.mono HBw6.size))
        have HSL9:=Lib.hid (Sl.of_own hown7)
        clear hg7 hb7 hown7 HX7 HBw5 HBw6
        go_wp2
        exact ⟨⟨k+1,insAtR acc ⟨x1,x2⟩ acc.length,by omega,by rw [insAt_endR];omega,by go_num,HB9.out,by rw [insAt_endR,← app_endR,hacc];exact HSL9.out,Lib.hid (by rw [HE.out,HPS.out])⟩,by simp [intOf];omega⟩
       ·simp only [Value.slice.injEq,true_and] at hv
        obtain ⟨rfl,rfl⟩:=hv
        by_cases hco:co=acc.length
        ·skip
         subst hco
         clear hbj
         go_wp2_with fail
         go_big_quiet (fail)
         go_wp2_with (at_builtin;refine halt_ ?_)
         unfold Halt_
         refine app_zero _ rfl _ _ 23 rfl 78 inf Tryz.underlying23 HINF.out (some ⟨wr.heap.size,0,none⟩) 0 0 (Nat.le_refl _) rfl _ _ rfl ?_
         obtain ⟨w5,hw5⟩:∃ w5,w5=(wr.drewN nq).alloc (.cells #[] 78):=⟨_,rfl⟩
         have hb5:Below wr.heap.size wr w5:=by rw [hw5];exact (below_drewN (Below.refl _ _) _).alloc (Nat.le_refl _) _
         have hh0:wr.heap.size≤w5.heap.size:=hb5.size
         rw [← hw5]
         have HX5:Blk w5 g #[.string x1,.string x2]:=HX3.below hb5
         have HB5':=Lib.hid (HBJ.out.trans (hb5.mono HBJ.out.size))
         have hh5:b2 < w5.heap.size:=Nat.lt_of_lt_of_le hb2 HB5'.out.size
         have HSX:=Lib.hid (fun i u (hu:(acc.flatMap Rl.cells)[i]? = some u)=>show w5.drew.cell? ⟨b2,o2+i,none⟩=some u from (HB5'.out.cell (p:=⟨b2,o2+i,none⟩) hb2).trans (hx2 i u hu))
         have hi1:(0:Int)≤(acc.length:Int):=by omega
         have hi3:(acc.length:Int)≤(acc.length:Int):=by omega
         have HX6:Blk w5.drew g #[.string x1,.string x2]:=HX5
         have c5x:=HX5.1
         have hgb:g < (w5.drew.alloc (.cells #[.string x1,.string x2] 78)).heap.size:=Nat.lt_of_lt_of_le HX6.2.2 (((Below.refl _ w5.drew).alloc (Nat.le_refl _) _).size)
         clear hw5 hb5 HX5 HX3 cx hx2
         go_wp2_with fail
         go_region_held3 (fun W => ∀ o,W.cell? ⟨g,o,none⟩=(#[.string x1,.string x2]:Array Value)[o]?)
          (first | exact HX6.1 | exact (HX6.alloc _).1 | exact HX7.1 | go_keep)
          (first
           | (refine step_append_grows rfl _ _ 23 rfl 78 inf _ 2 32 Tryz.underlying23 HINF.out hz0 hz1 hz2' rfl (Nat.le_of_ble_eq_true rfl) (some ⟨b2,o2,none⟩) acc.length acc.length (acc.flatMap Rl.cells) rfl ?_ (flat_len _ 2 Rl.cells_len acc) ?_ ⟨w5.heap.size,0,none⟩ 1 1 (Rl.cells ⟨x1,x2⟩) rfl rfl ?_ (rl1 x1 x2) (Nat.lt_succ_self _) ?_ ?_ ?_;(intro h;cases h);(intro b hb i u hu;cases hb;rw [addr_add];exact (World.cell?_alloc_past _ _ _ hh5).trans (HSX.out i u hu));exact cells_new _ _ _ _ rfl;(simp only [maxLen];omega);omega;intro v7 w7 hown7 hg7;obtain ⟨a7,c7,rfl,hc7⟩:=own_form2 hown7;have hb7:=below_of_none hg7;have HX7:=(HX6.alloc _).below hb7)
           | (refine step_zero _ rfl _ _ 23 rfl 78 inf Tryz.underlying23 HINF.out _ _ c7 hc7 rfl _ _ rfl ?_))
         have HBw5:=HB2.out.trans (HB5'.out.mono HB2.out.size)
         have HBw6:=(below_drew HBw5).alloc (B:=w.heap.size) HBw5.size (.cells #[.string x1,.string x2] 78)
         have HB9:=Lib.hid (HBw6.trans (hb7.mono HBw6.size))
         have HSL9:=Lib.hid (Sl.of_own hown7)
         clear hg7 hb7 hown7 HX7 HBw5 HBw6
         go_wp2
         exact ⟨⟨k+1,insAtR acc ⟨x1,x2⟩ acc.length,by omega,by rw [insAt_endR];omega,by go_num,HB9.out,by rw [insAt_endR,← app_endR];exact HSL9.out,Lib.hid (by rw [HE.out,HPS.out])⟩,by simp [intOf];omega⟩
        ·skip
         have hco2:acc.length < co:=by omega
         clear hbj
         go_wp2_with fail
         go_big_quiet (fail)
         go_wp2_with (at_builtin;refine halt_ ?_)
         unfold Halt_
         refine app_zero _ rfl _ _ 23 rfl 78 inf Tryz.underlying23 HINF.out (some ⟨wr.heap.size,0,none⟩) 0 0 (Nat.le_refl _) rfl _ _ rfl ?_
         obtain ⟨w5,hw5⟩:∃ w5,w5=(wr.drewN nq).alloc (.cells #[] 78):=⟨_,rfl⟩
         have hb5:Below wr.heap.size wr w5:=by rw [hw5];exact (below_drewN (Below.refl _ _) _).alloc (Nat.le_refl _) _
         have hh0:wr.heap.size≤w5.heap.size:=hb5.size
         rw [← hw5]
         have HX5:Blk w5 g #[.string x1,.string x2]:=HX3.below hb5
         have HB5':=Lib.hid (HBJ.out.trans (hb5.mono HBJ.out.size))
         have hh5:b2 < w5.heap.size:=Nat.lt_of_lt_of_le hb2 HB5'.out.size
         have HSX:=Lib.hid (fun i u (hu:(acc.flatMap Rl.cells)[i]? = some u)=>show w5.drew.cell? ⟨b2,o2+i,none⟩=some u from (HB5'.out.cell (p:=⟨b2,o2+i,none⟩) hb2).trans (hx2 i u hu))
         have hi1:(0:Int)≤(acc.length:Int):=by omega
         have hi3:(acc.length:Int)≤(co:Int):=by omega
         have HX6:Blk w5.drew g #[.string x1,.string x2]:=HX5
         have c5x:=HX5.1
         have hgb:g < (w5.drew.alloc (.cells #[.string x1,.string x2] 78)).heap.size:=Nat.lt_of_lt_of_le HX6.2.2 (((Below.refl _ w5.drew).alloc (Nat.le_refl _) _).size)
         clear hw5 hb5 HX5 HX3 cx hx2
         go_wp2_with fail
         go_region_held3 (fun W => ∀ o,W.cell? ⟨g,o,none⟩=(#[.string x1,.string x2]:Array Value)[o]?)
          (first | exact HX6.1 | exact (HX6.alloc _).1 | exact HX7.1 | go_keep)
          (first
           | (refine step_append_grows rfl _ _ 23 rfl 78 inf _ 2 32 Tryz.underlying23 HINF.out hz0 hz1 hz2' rfl (Nat.le_of_ble_eq_true rfl) (some ⟨b2,o2,none⟩) acc.length acc.length (acc.flatMap Rl.cells) rfl ?_ (flat_len _ 2 Rl.cells_len acc) ?_ ⟨w5.heap.size,0,none⟩ 1 1 (Rl.cells ⟨x1,x2⟩) rfl rfl ?_ (rl1 x1 x2) (Nat.lt_succ_self _) ?_ ?_ ?_;(intro h;cases h);(intro b hb i u hu;cases hb;rw [addr_add];exact (World.cell?_alloc_past _ _ _ hh5).trans (HSX.out i u hu));exact cells_new _ _ _ _ rfl;(simp only [maxLen];omega);omega;intro v7 w7 hown7 hg7;obtain ⟨a7,c7,rfl,hc7⟩:=own_form2 hown7;have hb7:=below_of_none hg7;have HX7:=(HX6.alloc _).below hb7)
           | (refine step_zero _ rfl _ _ 23 rfl 78 inf Tryz.underlying23 HINF.out _ _ c7 hc7 rfl _ _ rfl ?_))
         have HBw5:=HB2.out.trans (HB5'.out.mono HB2.out.size)
         have HBw6:=(below_drew HBw5).alloc (B:=w.heap.size) HBw5.size (.cells #[.string x1,.string x2] 78)
         have HB9:=Lib.hid (HBw6.trans (hb7.mono HBw6.size))
         have HSL9:=Lib.hid (Sl.of_own hown7)
         clear hg7 hb7 hown7 HX7 HBw5 HBw6
         go_wp2
         exact ⟨⟨k+1,insAtR acc ⟨x1,x2⟩ acc.length,by omega,by rw [insAt_endR];omega,by go_num,HB9.out,by rw [insAt_endR,← app_endR];exact HSL9.out,Lib.hid (by rw [HE.out,HPS.out])⟩,by simp [intOf];omega⟩
   ·have R:=Lib.hid (HI.out.trans (insAll_endR acc l k hlt))
    obtain ⟨ao,co,rfl⟩:=hso.form
    clear hbw hso
    go_wp2
    go_ret
    exact ⟨_,rfl,by rw [R.out];exact HSO.out,HBW.out⟩
 ·obtain ⟨a1,c1,rfl⟩:=ha.form
  obtain rfl:l=[]:=List.eq_nil_of_length_eq_zero (by omega)
  clear ha h0 hl
  go_enter Tryz.func18,Tryz.ntmps18
  go_wp2
  go_loopw [3,10] (fun vo i wr=>vo=.slice none 0 0∧i=.int .i64 0∧wr=w) (fun _ _ _=>0)
  case atStart=>exact ⟨rfl,rfl,rfl⟩
  case round =>
   obtain ⟨rfl,rfl,rfl⟩:=hrel
   go_wp2
   go_ret
   exact ⟨_,rfl,Sl.nil _ _,Below.refl _ _⟩

end
section
open Go.RowKit Go.Shelf

theorem same_lenR {l m:List Rl} (h:¬ l.length=m.length):decide (l=m)=false:=decide_eq_false (fun e=>h (by rw [e]))
theorem take_moreR {l m:List Rl} {k:Nat} (h:l.take k=m.take k) (hl:k < l.length) (hm:k < m.length) (e:l[k]=m[k]):l.take (k+1)=m.take (k+1):=by
 rw [List.take_succ_eq_append_getElem hl,List.take_succ_eq_append_getElem hm,h,e]
theorem same_endR {l m:List Rl} {k:Nat} (h:l.take k=m.take k) (hl:¬ k < l.length) (hm:¬ k < m.length):decide (l=m)=true:=by
 rw [List.take_of_length_le (by omega),List.take_of_length_le (by omega)] at h
 exact decide_eq_true h
theorem same_noR {l m:List Rl} {k:Nat} (hl:k < l.length) (hm:k < m.length) (e:¬ l[k]=m[k]):decide (l=m)=false:=decide_eq_false (fun h=>e (by subst h;rfl))

set_option maxRecDepth 100000 in
set_option maxHeartbeats 2000000 in
theorem ref3_SameRolesD (va vb:Value) (l m:List Rl) (w:World) (ha:SlA w 2 va l.length (l.flatMap Rl.cells)) (hb:SlA w 2 vb m.length (m.flatMap Rl.cells)) :
  Calls Tryz.prog 17 #[va,vb] w fun e w'=>e=.returned (.bool (decide (l=m)))∧∃ n,w'=w.drewN n:=by
 have hmax:=ha.max
 have hmax2:=hb.max
 by_cases hl:l.length=m.length
 case neg =>
  have R:=Lib.hid (same_lenR hl)
  have d:((l.length:Int) != (m.length:Int))=true:=by rw [bne_iff_ne];omega
  obtain ⟨a1,c1,rfl⟩:=ha.form
  obtain ⟨a2,c2,rfl⟩:=hb.form
  clear ha hb hl
  go_enter Tryz.func17,Tryz.ntmps17
  go_wp2
  go_ret
  exact ⟨ret_b R.out.symm,0,rfl⟩
 have hNe:=role_neq
 have hne:((l.length:Int) != (m.length:Int))=false:=by rw [hl];simp
 by_cases h0:0 < l.length
 ·obtain ⟨b1,o1,c1,rfl,hc1,hm1,_,hx1⟩:=ha.pos h0
  obtain ⟨b2,o2,c2,rfl,hc2,hm2,_,hx2⟩:=hb.pos (by omega)
  have HX1:=Lib.hid hx1
  have HX2:=Lib.hid hx2
  have HL:=Lib.hid hl
  clear ha hb hx1 hx2 hl
  go_enter Tryz.func17,Tryz.ntmps17
  go_wp2
  go_loopw [13] (fun i wr => ∃ k n:Nat,k≤l.length∧i=.int .i64 k∧wr=w.drewN n∧Hid (l.take k=m.take k)) (fun i _=>l.length - (intOf i).toNat)
  case atStart=>exact ⟨0,0,by omega,rfl,rfl,Lib.hid (by simp)⟩
  case round =>
   obtain ⟨k,n,hk,rfl,rfl,HT⟩:=hrel
   by_cases hlt:k < l.length
   ·have hlt2:k < m.length:=by have:=HL.out;omega
    obtain ⟨p0,p1⟩:=rl_cell HX1.out k hlt
    obtain ⟨q0,q1⟩:=rl_cell HX2.out k hlt2
    by_cases he:l[k]=m[k]
    ·have HN:=Lib.hid (take_moreR HT.out hlt hlt2 he)
     have d1:(!eqRl ⟨l[k].o,l[k].n⟩ ⟨m[k].o,m[k].n⟩)=false:=by
      have:=congrArg (!·) (decide_eq_true he);exact this
     clear he
     go_wp2_with fail
     go_big_quiet (fail)
     go_wp2
     exact ⟨⟨k+1,n+nq,by omega,by go_num,rfl,HN⟩,by simp [intOf];omega⟩
    ·have R:=Lib.hid (same_noR hlt hlt2 he)
     have d1:(!eqRl ⟨l[k].o,l[k].n⟩ ⟨m[k].o,m[k].n⟩)=true:=by
      have:=congrArg (!·) (decide_eq_false he);exact this
     clear he
     go_wp2_with fail
     go_big_quiet (fail)
     go_wp2
     go_ret
     exact ⟨ret_b R.out.symm,n+nq,by simp [World.drewN,Nat.add_assoc]⟩
   ·have R:=Lib.hid (same_endR HT.out hlt (by have:=HL.out;omega))
    go_wp2
    go_ret
    exact ⟨ret_b R.out.symm,n,rfl⟩
 ·have R:=Lib.hid (same_endR (l:=l) (m:=m) (k:=0) (by simp) h0 (by omega))
  obtain ⟨a1,c1,rfl⟩:=ha.form
  obtain ⟨a2,c2,rfl⟩:=hb.form
  have d0:l.length=0:=by omega
  have d02:m.length=0:=by omega
  clear ha hb h0 hmax hl hmax2
  go_enter Tryz.func17,Tryz.ntmps17
  go_wp2
  go_loopw [13] (fun i wr=>i=.int .i64 0∧wr=w) (fun _ _=>0)
  case atStart=>exact ⟨rfl,rfl⟩
  case round =>
   obtain ⟨rfl,rfl⟩:=hrel
   go_wp2
   go_ret
   exact ⟨ret_b R.out.symm,0,rfl⟩

theorem ref3_SameRolesE (va vb:Value) (l m:List Rl) (w:World) (ha:SlA w 2 va l.length (l.flatMap Rl.cells)) (hb:SlA w 2 vb m.length (m.flatMap Rl.cells)) :
  Calls Tryz.prog 17 #[va,vb] w fun e w'=>e=.returned (.bool (decide (l=m)))∧Below w.heap.size w w' :=
 (ref3_SameRolesD va vb l m w ha hb).mono fun e w' ⟨he,n,hn⟩=>⟨he,by rw [hn];exact below_of_drewN n⟩
end
section
open Go.RowKit Go.Shelf

end
section
open Go.RowKit Go.Shelf

theorem ref3_SameB (va vb:Value) (l m:List St) (w:World) (ha:SlA w 9 va l.length (l.flatMap St.cells)) (hb:SlA w 9 vb m.length (m.flatMap St.cells)) :
  Calls Tryz.prog 15 #[va,vb] w fun e w'=>e=.returned (.bool (decide (l=m)))∧Below w.heap.size w w' :=
 (ref3_Same va vb l m w ha hb).mono fun e w' ⟨he,n,hn⟩=>⟨he,by rw [hn];exact below_of_drewN n⟩
end
section
open Go.RowKit Go.Shelf

def nthOp:List Oper→Nat→Option Oper
 | [],_=>none
 | o :: _,0=>some o
 | _ :: r,n+1=>nthOp r n
theorem nthOp_get:∀ (l:List Oper) (i:Nat),l.toArray[i]? = nthOp l i
 | [],i=>by simp [nthOp]
 | o :: r,0=>by simp [nthOp]
 | o :: r,n+1=>by have:=nthOp_get r n;simpa [nthOp] using this

theorem held_yes {P:Program} {md:Region.Mode} {S:World→Prop} {Q:Exit→Act→World→Prop} {fuel:Nat} {listed:Array Bool} {a:Act} {w:World} {v:Value} {oi:Oper} {l:List Oper} (i:Nat) (hi:nthOp l i=some oi)
  (hs:Region.noSelect l.toArray=true) (hf:Region.free md l.toArray listed i=true) (hr:(Region.ready md l.toArray listed).contains i=true)
  (hQ:∀ c a w,Q (.panic c) (a.put oi.dst v) w→Q (.panic c) a w) (hw:Region.wanted oi (yielded l.toArray a.tmps)=true) (hS:S w) (hy:∀ w,S w→(execOp a.eval oi).run P w=.ok (.value v) w)
  (h:wpAnyH P md l.toArray Q S fuel (listed.setIfInBounds i true) (a.put oi.dst v) w):wpAnyH P md l.toArray Q S (fuel+1) listed a w :=
 wpAnyH_take (by rw [nthOp_get];exact hi) hs hf hr hQ (Or.inl ⟨hw,hy⟩) hS h

theorem held_no {P:Program} {md:Region.Mode} {S:World→Prop} {Q:Exit→Act→World→Prop} {fuel:Nat} {listed:Array Bool} {a:Act} {w:World} {oi:Oper} {l:List Oper} (i:Nat) (hi:nthOp l i=some oi)
  (hs:Region.noSelect l.toArray=true) (hf:Region.free md l.toArray listed i=true) (hr:(Region.ready md l.toArray listed).contains i=true)
  (hQ:∀ c a w,Q (.panic c) (a.put oi.dst undef) w→Q (.panic c) a w) (hw:Region.wanted oi (yielded l.toArray a.tmps)=false) (hS:S w)
  (h:wpAnyH P md l.toArray Q S fuel (listed.setIfInBounds i true) (a.put oi.dst undef) w):wpAnyH P md l.toArray Q S (fuel+1) listed a w :=
 wpAnyH_take (by rw [nthOp_get];exact hi) hs hf hr hQ (Or.inr ⟨hw,rfl⟩) hS h

theorem held_call {P:Program} {md:Region.Mode} {S:World→Prop} {Q:Exit→Act→World→Prop} {fuel:Nat} {listed:Array Bool} {a:Act} {w:World} {oi:Oper} {l:List Oper} (i:Nat) (hi:nthOp l i=some oi)
  (hr:Region.ready md l.toArray listed=[i])
  (h:∀ K':Act→World→Prop,Shut (∀ a w,S w→(S w→wpAnyH P md l.toArray Q S fuel (listed.setIfInBounds i true) a w)→K' a w)→if Region.wanted oi (yielded l.toArray a.tmps)=true then Oper.wp P oi a w K' Q else K' (a.put oi.dst undef) w) :
  wpAnyH P md l.toArray Q S (fuel+1) listed a w :=
 wpAnyH_ready hr (by simp) (AllReadyH.cons (by rw [nthOp_get];exact hi) h AllReadyH.nil)
theorem hyes {P:Program} {md:Region.Mode} {S:World→Prop} {Q:Exit→Act→World→Prop} {fuel:Nat} {listed:Array Bool} {a a':Act} {w:World} {v:Value} {oi:Oper} {l:List Oper} (i:Nat)
  (h:wpAnyH P md l.toArray Q S fuel (listed.setIfInBounds i true) a' w) (hi:nthOp l i=some oi:=by rfl) (hy:∀ w,S w→(execOp a.eval oi).run P w=.ok (.value v) w:=by (intro w hSw;(try dsimp only at hSw);go_simp;(try with_reducible rfl)))
  (ha:a.put oi.dst v=a':=by (simp only [Act.put,List.setIfInBounds_toArray,List.set];exact rfl)) (hs:Region.noSelect l.toArray=true:=by kernel_rfl) (hf:Region.free md l.toArray listed i=true:=by kernel_rfl) (hr:(Region.ready md l.toArray listed).contains i=true:=by kernel_rfl)
  (hQ:∀ c a w,Q (.panic c) (a.put oi.dst v) w→Q (.panic c) a w:=by exact fun _ _ _ h=>h) (hw:Region.wanted oi (yielded l.toArray a.tmps)=true:=by rfl) (hS:S w:=by assumption):wpAnyH P md l.toArray Q S (fuel+1) listed a w:=by
 subst ha
 exact held_yes i hi hs hf hr hQ hw hS hy h
theorem hno {P:Program} {md:Region.Mode} {S:World→Prop} {Q:Exit→Act→World→Prop} {fuel:Nat} {listed:Array Bool} {a a':Act} {w:World} {oi:Oper} {l:List Oper} (i:Nat)
  (h:wpAnyH P md l.toArray Q S fuel (listed.setIfInBounds i true) a' w) (hi:nthOp l i=some oi:=by rfl)
  (ha:a.put oi.dst undef=a':=by (simp only [Act.put,List.setIfInBounds_toArray,List.set];exact rfl)) (hs:Region.noSelect l.toArray=true:=by kernel_rfl) (hf:Region.free md l.toArray listed i=true:=by kernel_rfl) (hr:(Region.ready md l.toArray listed).contains i=true:=by kernel_rfl)
  (hQ:∀ c a w,Q (.panic c) (a.put oi.dst undef) w→Q (.panic c) a w:=by exact fun _ _ _ h=>h) (hw:Region.wanted oi (yielded l.toArray a.tmps)=false:=by rfl) (hS:S w:=by assumption):wpAnyH P md l.toArray Q S (fuel+1) listed a w:=by
 subst ha
 exact held_no i hi hs hf hr hQ hw hS h
end
section
open Go.RowKit Go.Shelf

end
section
open Go.RowKit Go.Shelf

def hasB (l:List ByteArray) (s:ByteArray):Bool:=l.any (fun x=>decide (x=s))
theorem hasB_yes {l:List ByteArray} {s:ByteArray} {k:Nat} (hl:k < l.length) (e:l[k]=s):hasB l s=true:=by
 unfold hasB;rw [List.any_eq_true];exact ⟨l[k],List.getElem_mem hl,by simp [e]⟩
theorem hasB_end {l:List ByteArray} {s:ByteArray} {k:Nat} (hk:¬ k < l.length) (h:∀ j (hj:j < l.length),j < k→¬ l[j]=s):hasB l s=false:=by
 unfold hasB;rw [List.any_eq_false]
 intro x hx
 obtain ⟨j,hj,rfl⟩:=List.getElem_of_mem hx
 simp [h j hj (by omega)]
def posSB:List ByteArray→ByteArray→Nat
 | [],_=>0
 | a :: r,x=>if cmpS a x < 0 then posSB r x+1 else 0
def insAtB (l:List ByteArray) (x:ByteArray) (k:Nat):List ByteArray:=l.take k++x :: l.drop k
def insSB (l:List ByteArray) (x:ByteArray):List ByteArray:=if hasB l x then l else insAtB l x (posSB l x)
def insAllB:List ByteArray→List ByteArray→List ByteArray
 | acc,[]=>acc
 | acc,x :: l=>insAllB (insSB acc x) l
theorem pos_leB:∀ (l:List ByteArray) (x:ByteArray),posSB l x≤l.length
 | [],_=>Nat.le_refl _
 | a :: r,x=>by unfold posSB;have:=pos_leB r x;split <;> simp <;> omega
theorem pos_ofB:∀ (l:List ByteArray) (x:ByteArray) (k:Nat),k≤l.length→(∀ j (hj:j < l.length),j < k→cmpS l[j] x < 0)→(∀ hk:k < l.length,¬ cmpS l[k] x < 0)→posSB l x=k
 | [],x,k,hk,_,_=>by simp at hk;subst hk;rfl
 | a :: r,x,0,_,_,h=>by
  have h':¬ cmpS a x < 0:=h (by simp)
  unfold posSB;rw [if_neg h']
 | a :: r,x,k+1,hk,h1,h2=>by
  have h':cmpS a x < 0:=h1 0 (by simp) (by omega)
  unfold posSB
  rw [if_pos h',pos_ofB r x k (by simpa using hk) (fun j hj hjk=>h1 (j+1) (by simp;omega) (by omega)) (fun hk'=>h2 (by simp;omega))]
theorem insS_lenB (l:List ByteArray) (x:ByteArray):(insSB l x).length≤l.length+1:=by
 unfold insSB insAtB;split
 ·omega
 ·simp [List.length_take,List.length_drop];have:=pos_leB l x;omega
theorem insS_hasB {l:List ByteArray} {x:ByteArray} (h:hasB l x=true):insSB l x=l:=if_pos h
theorem insS_notB {l:List ByteArray} {x:ByteArray} (h:hasB l x=false):insSB l x=insAtB l x (posSB l x):=if_neg (by rw [h];exact Bool.false_ne_true)
theorem insAt_lenB {l:List ByteArray} {x:ByteArray} {j:Nat} (hj:j≤l.length):(insAtB l x j).length=j+1+(l.length - j):=by
 unfold insAtB;rw [List.length_append,List.length_cons,List.length_take,List.length_drop];omega
theorem eqB_self (x:ByteArray):decide (x=x)=true:=decide_eq_true rfl
theorem hasB_mem (l:List ByteArray) (x:ByteArray):hasB l x=true↔x∈l:=by
 unfold hasB;rw [List.any_eq_true]
 constructor
 ·rintro ⟨y,hy,e⟩;rw [← of_decide_eq_true e];exact hy
 ·intro h;exact ⟨x,h,eqB_self x⟩
theorem lt_trans'B {x y z:ByteArray} (h:cmpS x y < 0) (h':cmpS y z < 0):cmpS x z < 0:=by
 obtain ⟨a,b⟩:=wcmp_str.le x y z (by omega) (by omega)
 have:¬ cmpS x z=0:=fun e=>by have:=(b e).1;omega
 omega
theorem lt_irrefl'B (x:ByteArray):¬ cmpS x x < 0:=by have:=(cmpS_zero x x).2 rfl;omega
def AscB (l:List ByteArray):Prop:=l.Pairwise fun x y=>cmpS x y < 0
theorem asc_uniqueB:∀ (l m:List ByteArray),AscB l→AscB m→(∀ x,x∈l↔x∈m)→l=m
 | [],[],_,_,_=>rfl
 | [],y :: m,_,_,h=>absurd ((h y).2 (by simp)) (by simp)
 | x :: l,[],_,_,h=>absurd ((h x).1 (by simp)) (by simp)
 | x :: l,y :: m,hl,hm,h=>by
  have hl':=List.pairwise_cons.1 hl
  have hm':=List.pairwise_cons.1 hm
  have e:x=y:=by
   rcases List.mem_cons.1 ((h x).1 (by simp)) with e | e
   ·exact e
   ·rcases List.mem_cons.1 ((h y).2 (by simp)) with e' | e'
    ·exact e'.symm
    ·exact absurd (lt_trans'B (hm'.1 x e) (hl'.1 y e')) (lt_irrefl'B y)
  subst e
  refine congrArg (x :: ·) (asc_uniqueB l m hl'.2 hm'.2 fun z=>?_)
  constructor
  ·intro hz
   rcases List.mem_cons.1 ((h z).1 (by simp [hz])) with e | e
   ·subst e;exact absurd (hl'.1 z hz) (lt_irrefl'B z)
   ·exact e
  ·intro hz
   rcases List.mem_cons.1 ((h z).2 (by simp [hz])) with e | e
   ·subst e;exact absurd (hm'.1 z hz) (lt_irrefl'B z)
   ·exact e
theorem insS_memB (l:List ByteArray) (x z:ByteArray):z∈insSB l x↔z∈l∨z=x:=by
 unfold insSB
 by_cases h:hasB l x=true
 ·rw [if_pos h]
  exact ⟨.inl,fun h'=>h'.elim id (fun e=>e ▸ (hasB_mem l x).1 h)⟩
 ·rw [if_neg h]
  unfold insAtB
  rw [List.mem_append,List.mem_cons]
  have:=List.take_append_drop (posSB l x) l
  constructor
  ·rintro (h | h | h)
   ·exact .inl (List.mem_of_mem_take h)
   ·exact .inr h
   ·exact .inl (List.mem_of_mem_drop h)
  ·rintro (h | h)
   ·rw [← this] at h
    rcases List.mem_append.1 h with h | h
    ·exact .inl h
    ·exact .inr (.inr h)
   ·exact .inr (.inl h)
theorem pos_takeB:∀ (l:List ByteArray) (x z:ByteArray),z∈l.take (posSB l x)→cmpS z x < 0
 | [],_,_,h=>by simp at h
 | a :: r,x,z,h=>by
  unfold posSB at h
  by_cases ha:cmpS a x < 0
  ·rw [if_pos ha] at h
   rcases List.mem_cons.1 (by simpa using h) with rfl | h
   ·exact ha
   ·exact pos_takeB r x z h
  ·rw [if_neg ha] at h;simp at h
theorem pos_dropB:∀ (l:List ByteArray) (x z:ByteArray),AscB l→z∈l.drop (posSB l x)→¬ cmpS z x < 0
 | [],_,_,_,h=>by simp at h
 | a :: r,x,z,hl,h=>by
  unfold posSB at h
  by_cases ha:cmpS a x < 0
  ·rw [if_pos ha] at h
   exact pos_dropB r x z (List.pairwise_cons.1 hl).2 (by simpa using h)
  ·rw [if_neg ha] at h
   rcases List.mem_cons.1 (by simpa using h) with rfl | h
   ·exact ha
   ·have:=(List.pairwise_cons.1 hl).1 z h
    intro hz;exact ha (lt_trans'B this hz)
theorem insS_ascB {l:List ByteArray} (h:AscB l) (x:ByteArray):AscB (insSB l x):=by
 unfold insSB
 by_cases hx:hasB l x=true
 ·rw [if_pos hx];exact h
 ·rw [if_neg hx]
  have hn:¬ x∈l:=fun h'=>hx ((hasB_mem l x).2 h')
  have h1:AscB (l.take (posSB l x)):=h.sublist (List.take_sublist _ _)
  have h2:AscB (l.drop (posSB l x)):=h.sublist (List.drop_sublist _ _)
  have h3:∀ a∈l.take (posSB l x),∀ b∈l.drop (posSB l x),cmpS a b < 0:=by
   have:=h
   rw [AscB,← List.take_append_drop (posSB l x) l,List.pairwise_append] at this
   exact this.2.2
  unfold insAtB AscB
  rw [List.pairwise_append,List.pairwise_cons]
  refine ⟨h1,⟨fun b hb=>?_,h2⟩,fun a ha b hb=>?_⟩
  ·have h4:=pos_dropB l x b h hb
   have h5:¬ cmpS b x=0:=fun e=>hn ((cmpS_zero b x).1 e ▸ List.mem_of_mem_drop hb)
   have:=wcmp_str.neg b x
   omega
  ·rcases List.mem_cons.1 hb with rfl | hb
   ·exact pos_takeB l b a ha
   ·exact h3 a ha b hb
theorem insAll_ascB:∀ (l acc:List ByteArray),AscB acc→AscB (insAllB acc l)
 | [],_,h=>h
 | x :: l,_,h=>insAll_ascB l _ (insS_ascB h x)
theorem insAll_memB:∀ (l acc:List ByteArray) (z:ByteArray),z∈insAllB acc l↔z∈acc∨z∈l
 | [],acc,z=>by simp [insAllB]
 | x :: l,acc,z=>by
  unfold insAllB
  rw [insAll_memB l,insS_memB,List.mem_cons,or_assoc]
theorem insAll_lenB:∀ (l acc:List ByteArray),(insAllB acc l).length≤acc.length+l.length
 | [],acc=>Nat.le_refl _
 | x :: r,acc=>by
  have h1:=insAll_lenB r (insSB acc x)
  have h2:=insS_lenB acc x
  show (insAllB (insSB acc x) r).length≤acc.length+(r.length+1)
  omega
end
section
open Go.RowKit Go.Shelf

def newB (l:List ByteArray):List ByteArray:=insAllB [] l
theorem new_asc (l:List ByteArray):AscB (newB l):=insAll_ascB l [] List.Pairwise.nil
theorem new_mem (l:List ByteArray) (x:ByteArray):x∈newB l↔x∈l:=by unfold newB;rw [insAll_memB];simp
theorem new_len (l:List ByteArray):(newB l).length≤l.length:=by have:=insAll_lenB l [];simpa [newB] using this
def idxB:List ByteArray→ByteArray→Nat
 | [],_=>0
 | a :: r,s=>if a=s then 0 else idxB r s+1
def placeB (l:List ByteArray) (s:ByteArray):Int:=if hasB l s=true then (idxB l s:Int) else -1
theorem idxB_first:∀ (l:List ByteArray) (s:ByteArray) (k:Nat) (hk:k < l.length),l[k]=s→(∀ j (hj:j < l.length),j < k→¬ l[j]=s)→idxB l s=k
 | [],_,_,hk,_,_=>by simp at hk
 | a :: r,s,0,_,h,_=>by
  have h':a=s:=h
  show (if a=s then 0 else idxB r s+1)=0
  rw [if_pos h']
 | a :: r,s,k+1,hk,h,h'=>by
  have h0:¬ a=s:=h' 0 (by simp) (by omega)
  show (if a=s then 0 else idxB r s+1)=k+1
  rw [if_neg h0,idxB_first r s k (by simpa using hk) (by simpa using h) (fun j hj hjk e=>h' (j+1) (by simp;omega) (by omega) e)]
theorem place_first {l:List ByteArray} {s:ByteArray} {k:Nat} (hk:k < l.length) (h:l[k]=s) (h':∀ j (hj:j < l.length),j < k→¬ l[j]=s):placeB l s=k:=by
 unfold placeB
 rw [if_pos ((hasB_mem l s).2 (h ▸ List.getElem_mem hk)),idxB_first l s k hk h h']
theorem place_no {l:List ByteArray} {s:ByteArray} (h:∀ j (hj:j < l.length),¬ l[j]=s):placeB l s = -1:=by
 unfold placeB
 rw [if_neg]
 intro h1
 obtain ⟨j,hj,e⟩:=List.getElem_of_mem ((hasB_mem l s).1 h1)
 exact h j hj e
theorem place_asc {l:List ByteArray} (hl:AscB l) {s:ByteArray} {k:Nat} (hk:k < l.length) (h:l[k]=s):placeB l s=k :=
 place_first hk h (fun j hj hjk e=>by
  have:=List.pairwise_iff_getElem.1 hl j k hj hk hjk
  rw [e,h] at this
  exact lt_irrefl'B s this)
theorem place_gap {l:List ByteArray} (_:AscB l) {s:ByteArray} {k:Nat} (h1:∀ j (hj:j < l.length),j < k→cmpS l[j] s < 0) (h2:∀ j (hj:j < l.length),k≤j→¬ cmpS l[j] s < 0) (h3:∀ hk:k < l.length,¬ l[k]=s) (hl:AscB l):placeB l s = -1 :=
 place_no (fun j hj e=>by
  by_cases hjk:j < k
  ·have:=h1 j hj hjk
   rw [e] at this
   exact lt_irrefl'B s this
  ·have hk:k < l.length:=by omega
   by_cases hjk2:j=k
   ·subst hjk2;exact h3 hk e
   ·have:=List.pairwise_iff_getElem.1 hl k j hk hj (by omega)
    rw [e] at this
    exact h2 k hk (Nat.le_refl _) this)
structure Ru where
 k:Int
 h:Int
 who:Int
 a:Int
 b:Int
 via:Int
deriving DecidableEq
end
section
open Go.RowKit Go.Shelf Go.Lib Go.Sort

def dedupG {α:Type} [DecidableEq α]:List α→List α
 | []=>[]
 | [x]=>[x]
 | x :: y :: r=>if x=y then dedupG (y :: r) else x :: dedupG (y :: r)
section
variable {α:Type} [DecidableEq α]
theorem dedupG_mem:∀ (l:List α) (z:α),z∈dedupG l↔z∈l
 | [],z=>by simp [dedupG]
 | [x],z=>by simp [dedupG]
 | x :: y :: r,z=>by
  have ih:=dedupG_mem (y :: r) z
  unfold dedupG
  by_cases e:x=y
  ·rw [if_pos e,ih,e];simp
  ·rw [if_neg e,List.mem_cons,ih,List.mem_cons (b:=x)]
theorem dedupG_snoc:∀ (p:List α) (y z:α),dedupG (p++[y,z])=if y=z then dedupG (p++[y]) else dedupG (p++[y])++[z]
 | [],y,z=>by
  show dedupG [y,z]=if y=z then dedupG [y] else dedupG [y]++[z]
  unfold dedupG
  by_cases h:y=z
  ·rw [if_pos h,if_pos h,h];rfl
  ·rw [if_neg h,if_neg h];rfl
 | [x],y,z=>by
  have ih:=dedupG_snoc [] y z
  simp only [List.nil_append] at ih
  show dedupG (x :: y :: [z])=if y=z then dedupG (x :: y :: []) else dedupG (x :: y :: [])++[z]
  have e1:dedupG (x :: y :: [z])=if x=y then dedupG [y,z] else x :: dedupG [y,z]:=rfl
  have e2:dedupG (x :: y :: [])=if x=y then dedupG [y] else x :: dedupG [y]:=rfl
  rw [e1,e2,ih]
  by_cases h1:x=y <;> by_cases h2:y=z <;> simp [h1,h2]
 | x :: x' :: p,y,z=>by
  have ih:=dedupG_snoc (x' :: p) y z
  simp only [List.cons_append] at ih ⊢
  have e1:∀ r,dedupG (x :: x' :: r)=if x=x' then dedupG (x' :: r) else x :: dedupG (x' :: r):=fun _=>rfl
  rw [e1,e1,ih]
  by_cases h1:x=x' <;> by_cases h2:y=z <;> simp [h1,h2]
theorem compactUpTo_dedup [Inhabited α] (zs:List α):∀ m,m≤zs.length→compactUpTo zs.toArray m=dedupG (zs.take m)
 | 0,_=>rfl
 | 1,h=>by
  rw [compactUpTo_succ,keeps_lt_one _ 0 (by omega)]
  match zs,h with
  | x :: r,_=>simp [compactUpTo,dedupG]
 | m+2,h=>by
  have ih:=compactUpTo_dedup zs (m+1) (by omega)
  have e0:zs.toArray[m+1]! = zs[m+1]:=by simp [show m+1 < zs.length by omega]
  have e1:zs.toArray[m]! = zs[m]:=by simp [show m < zs.length by omega]
  have et:zs.take (m+2)=zs.take m++[zs[m],zs[m+1]]:=by
   rw [List.take_succ_eq_append_getElem (by omega),List.take_succ_eq_append_getElem (by omega),List.append_assoc];rfl
  have et1:zs.take (m+1)=zs.take m++[zs[m]]:=List.take_succ_eq_append_getElem (by omega)
  rw [compactUpTo_succ,ih,et,dedupG_snoc,← et1]
  by_cases e:zs[m]=zs[m+1]
  ·rw [if_pos e,keeps_neg (by omega) (by rw [e0,show m+1 - 1=m by omega,e1];exact e.symm)]
   simp
  ·rw [if_neg e,keeps_pos (by rw [e0,show m+1 - 1=m by omega,e1];exact fun h=>e h.symm),if_pos rfl,e0]
theorem compact_dedup [Inhabited α] (zs:List α):compact zs=dedupG zs:=by
 unfold compact
 rw [compactUpTo_dedup zs _ (Nat.le_refl _),List.take_of_length_le (Nat.le_refl _)]
end
def toBA (x:List UInt8):ByteArray:=⟨x.toArray⟩
theorem bl_toBA (x:List UInt8):bl (toBA x)=x:=by simp [bl,toBA]
theorem toBA_bl (x:ByteArray):toBA (bl x)=x:=by cases x;simp [bl,toBA]
theorem le_cmp (x y:List UInt8):x≤y↔compareBytes x y≤0:=by
 have h1:=bytesLess_eq y x
 have h2:=cmp_less y x
 have h3:=cmp_neg x y
 rw [h1] at h2
 have h4:y < x↔compareBytes y x < 0:=by
  constructor
  ·intro h;exact of_decide_eq_true (h2 ▸ decide_eq_true h)
  ·intro h;exact of_decide_eq_true (h2.symm ▸ decide_eq_true h)
 rw [← List.not_lt,h4]
 omega
theorem dedupG_asc:∀ (l:List (List UInt8)),(l.Pairwise fun x y=>x≤y)→AscB ((dedupG l).map toBA)
 | [],_=>List.Pairwise.nil
 | [x],_=>by simp [dedupG,AscB]
 | x :: y :: r,h=>by
  have h':=List.pairwise_cons.1 h
  have ih:=dedupG_asc (y :: r) h'.2
  unfold dedupG
  by_cases e:x=y
  ·rw [if_pos e];exact ih
  ·rw [if_neg e,List.map_cons]
   refine List.pairwise_cons.2 ⟨fun z hz=>?_,ih⟩
   obtain ⟨z',hz',rfl⟩:=List.mem_map.1 hz
   have hz'':=(dedupG_mem (y :: r) z').1 hz'
   have hxz:compareBytes x z'≤0:=(le_cmp x z').1 (h'.1 z' hz'')
   have hxy:compareBytes x y≤0:=(le_cmp x y).1 (h'.1 y (by simp))
   have hyz:compareBytes y z'≤0:=by
    rcases List.mem_cons.1 hz'' with rfl | hz''
    ·have:=(cmp_zero z' z').2 rfl;omega
    ·exact (le_cmp y z').1 ((List.pairwise_cons.1 h'.2).1 z' hz'')
   have hne:¬ compareBytes x y=0:=fun h0=>e ((cmp_zero x y).1 h0)
   obtain ⟨_,h2⟩:=cmpB_le x y z' hxy hyz
   have hne2:¬ compareBytes x z'=0:=fun h0=>hne (h2 h0).1
   show compareBytes (bl (toBA x)) (bl (toBA z')) < 0
   rw [bl_toBA,bl_toBA]
   omega
theorem sorted_new (l:List ByteArray):(compact ((l.map bl).mergeSort fun x y=>decide (x≤y))).map toBA=newB l:=by
 rw [compact_dedup]
 have hs:((l.map bl).mergeSort fun x y=>decide (x≤y)).Pairwise fun x y=>x≤y:=by
  have h:=List.pairwise_mergeSort (le:=fun (x y:List UInt8)=>decide (x≤y)) (fun a b c h1 h2=>decide_eq_true (List.le_trans (of_decide_eq_true h1) (of_decide_eq_true h2))) (fun a b=>by
   rw [Bool.or_eq_true,decide_eq_true_iff,decide_eq_true_iff];exact List.le_total a b) (l.map bl)
  exact h.imp (fun h=>of_decide_eq_true h)
 refine asc_uniqueB _ _ (dedupG_asc _ hs) (new_asc l) fun z=>?_
 rw [new_mem,List.mem_map]
 constructor
 ·rintro ⟨x,hx,rfl⟩
  have:=(dedupG_mem _ x).1 hx
  rw [List.mem_mergeSort,List.mem_map] at this
  obtain ⟨y,hy,rfl⟩:=this
  rw [toBA_bl];exact hy
 ·intro hz
  refine ⟨bl z,(dedupG_mem _ _).2 ?_,toBA_bl z⟩
  rw [List.mem_mergeSort]
  exact List.mem_map.2 ⟨z,hz,rfl⟩
end
section
open Go.RowKit Go.Shelf Go.Sort

def TabAt (w:World) (b:Nat) (l:List ByteArray):Prop:=∃ v,w.cell? ⟨b,0,none⟩=some v∧Sl w 1 v l.length (strs l)∧b < w.heap.size
theorem tab_new {w1:World} {v:Value} {l:List ByteArray} (h:Sl w1 1 v l.length (strs l)) (t:TypeId):TabAt (w1.alloc (.cells #[v] t)) w1.heap.size l :=
 ⟨v,(Blk.new w1 #[v] t).1 0,h.below ((Below.refl _ _).alloc (Nat.le_refl _) _),by simp⟩
theorem strs_bl (l:List ByteArray):strs l=(l.map bl).map encStr:=by
 unfold strs
 rw [List.map_map]
 refine List.map_congr_left fun x _=>?_
 show Value.string x=Value.string (toBA (bl x))
 rw [toBA_bl]
theorem sorted_strs (l:List ByteArray):(Lib.compact ((l.map bl).mergeSort fun x y=>decide (x≤y))).map encStr=strs (newB l):=by
 rw [← sorted_new l]
 unfold strs
 rw [List.map_map];rfl
theorem sorted_len (l:List ByteArray):(Lib.compact ((l.map bl).mergeSort fun x y=>decide (x≤y))).length=(newB l).length:=by
 have:=congrArg List.length (sorted_new l)
 rwa [List.length_map] at this
theorem new_left {w w1:World} {g cap n nn q:Nat} {os:Array Obj} {ss:List (List UInt8)} (hown:w1.ownsRow w.heap.size 9 1 (.slice (some ⟨g,0,none⟩) n cap) n (ss.map encStr)) (hbel:Below w.heap.size w w1) (hbg:w.heap.size≤g) (hlen:ss.length=n) (w':World)
  (hw':w'=putRow encStr (Sort.ahead (grow (putRow encStr (Sort.ahead w1 nn) g 0 (ss.mergeSort fun x y=>decide (x≤y)).toArray) os) q) g 0 (Lib.compact (ss.mergeSort fun x y=>decide (x≤y))++List.replicate (n - (Lib.compact (ss.mergeSort fun x y=>decide (x≤y))).length) []).toArray) :
  w'.ownsRow w.heap.size 9 1 (.slice (some ⟨g,0,none⟩) (Lib.compact (ss.mergeSort fun x y=>decide (x≤y))).length cap) (Lib.compact (ss.mergeSort fun x y=>decide (x≤y))).length ((Lib.compact (ss.mergeSort fun x y=>decide (x≤y))).map encStr)∧Below w.heap.size w w':=by
 subst hw'
 have hl2:(ss.mergeSort fun x y=>decide (x≤y)).length=ss.length:=List.length_mergeSort ss
 have hle:=Lib.compact_length_le (ss.mergeSort fun x y=>decide (x≤y))
 subst hlen
 rcases hown.2 with ⟨h0,_⟩ | ⟨g',cap',cur,hv,hbase,hb,h1,h2,h3,h4⟩
 ·cases h0
 cases hv
 have hs:=ownsRow_sorted (n:=nn) (os:=os) (ts:=ss.mergeSort fun x y=>decide (x≤y)) hl2 hbase hb h1 h2 h3
 have hc:=Lib.ownsRow_putRow (q:=q) (k:=(Lib.compact (ss.mergeSort fun x y=>decide (x≤y))).length) (ys:=Lib.compact (ss.mergeSort fun x y=>decide (x≤y))++List.replicate (ss.length - (Lib.compact (ss.mergeSort fun x y=>decide (x≤y))).length) []) hs (by simp;omega) (by omega)
 rw [List.take_left] at hc
 exact ⟨hc,Lib.below_putRow (hbel.grown (grownBy_sorted _) hbel.size (fun j hj=>by cases hj;exact hbase)) hbg⟩
set_option maxRecDepth 100000 in
set_option maxHeartbeats 4000000 in
theorem names_New (va:Value) (l:List ByteArray) (w:World) (ha:SlA w 1 va l.length (strs l)) (hl:l.length≤100000) :
  Calls Tryz.prog 215 #[va] w fun e w' => ∃ b,e=.returned (.pointer (some ⟨b,0,none⟩))∧TabAt w' b (newB l)∧w.heap.size≤b∧Below w.heap.size w w':=by
 by_cases h0:0 < l.length
 ·obtain ⟨b1,o1,c1,rfl,hc1,hm1,hb1,hx1⟩:=ha.pos h0
  have CL:=Lib.hid (Tryz.slices_Clone_string b1 o1 l.length c1 l w (Nat.le_refl _) (by omega) (fun j hj=>by
   rw [hx1 j _ (strs_get hj),List.getD_eq_getElem?_getD,List.getElem?_eq_getElem hj];rfl))
  have SL:=Lib.hid (strs_bl l)
  have SN:=Lib.hid (sorted_strs l)
  have SE:=Lib.hid (sorted_len l)
  clear ha hx1
  go_enter Tryz.func215,Tryz.ntmps215
  go_wp2_with fail
  refine CL.out.mono ?_
  rintro e w1 ⟨v1,rfl,hown,hnn,hbel⟩
  rw [List.take_of_length_le (Nat.le_refl _),show l.map Value.string=(l.map bl).map encStr from SL.out] at hown
  obtain ⟨g,cap,rfl,hbg,hgl,hncap,hcm,hlen,hH⟩:=Lib.holds_of_ownsRow hown hnn
  have HOWN:=Lib.hid hown
  have HBEL:=Lib.hid hbel
  have SO:=Lib.hid (Tryz.slices_Sort_string g 0 cap (l.map bl) w1 hH hgl (by rw [List.length_map];omega))
  rw [List.length_map] at SO
  have HH:=Lib.hid hH
  clear hown hbel hH hnn CL SL
  go_wp2_with fail
  refine SO.out.mono ?_
  rintro e w2 ⟨rfl,nn,os,hw2⟩
  have hl2:((l.map bl).mergeSort fun x y=>decide (x≤y)).length=l.length:=by rw [List.length_mergeSort,List.length_map]
  have hH2:Holds encStr w2 g 0 ((l.map bl).mergeSort fun x y=>decide (x≤y)).toArray:=by
   rw [hw2]
   exact holds_grow encStr _ os g 0 _ (by simpa [putRow,mapBlock,Sort.ahead] using hgl) (holds_putRow encStr _ g 0 _ _ (holds_ahead encStr w1 nn g 0 _ HH.out) (by simp))
  have CO:=Lib.hid (Tryz.slices_Compact_string g 0 cap ((l.map bl).mergeSort fun x y=>decide (x≤y)) w2 hH2 (by omega) (by omega))
  rw [hl2] at CO
  have HW2:=Lib.hid hw2
  clear hH2 SO HH hw2
  go_wp2_with fail
  refine CO.out.mono ?_
  rintro e w3 ⟨rfl,q,hw3⟩
  have LE:=new_left (w:=w) (q:=q) HOWN.out HBEL.out hbg (by simp) w3 (by rw [hw3,HW2.out])
  rw [SN.out,SE.out] at LE
  have HS:=Lib.hid (Sl.of_own LE.1)
  have HB:=Lib.hid LE.2
  have hz:=LE.2.size
  rw [SE.out]
  clear LE hw3 CO HW2 HOWN HBEL SN SE hl2
  go_wp2
  go_ret
  exact ⟨_,rfl,tab_new HS.out _,hz,HB.out.alloc HB.out.size _⟩
 ·obtain rfl:l=[]:=List.eq_nil_of_length_eq_zero (by omega)
  obtain ⟨ao,ac,rfl⟩:=ha.form
  cases ao with
  | none =>
   clear ha
   go_enter Tryz.func215,Tryz.ntmps215
   go_wp2_with fail
   refine (Tryz.slices_Clone_string_nil 0 ac w).mono ?_
   rintro e w1 ⟨rfl,rfl⟩
   go_wp2_with fail
   refine (Tryz.slices_Sort_string_none none 0 _).mono ?_
   rintro e w2 ⟨rfl,rfl⟩
   go_wp2_with fail
   refine (Tryz.slices_Compact_string_empty none 0 _).mono ?_
   rintro e w3 ⟨rfl,rfl⟩
   go_wp2
   go_ret
   exact ⟨_,rfl,tab_new (Sl.nil _ _) _,Nat.le_refl _,(Below.refl _ _).alloc (Nat.le_refl _) _⟩
  | some a =>
   clear ha
   go_enter Tryz.func215,Tryz.ntmps215
   go_wp2_with fail
   refine (Tryz.slices_Clone_string_zero a ac w).mono ?_
   rintro e w1 ⟨v1,rfl,hown,hnn,hbel⟩
   obtain ⟨vo,vc,rfl⟩:=own_form hown
   have HS:=Lib.hid (Sl.of_own hown)
   have HB:=Lib.hid hbel
   have hz:=hbel.size
   clear hown hnn hbel
   go_wp2_with fail
   refine (Tryz.slices_Sort_string_none _ _ _).mono ?_
   rintro e w2 ⟨rfl,rfl⟩
   go_wp2_with fail
   refine (Tryz.slices_Compact_string_empty _ _ _).mono ?_
   rintro e w3 ⟨rfl,rfl⟩
   go_wp2
   go_ret
   exact ⟨_,rfl,tab_new (l:=[]) HS.out _,hz,HB.out.alloc HB.out.size _⟩
end
section
open Go.RowKit Go.Shelf

theorem cmp_isNaNs (s:ByteArray) (w:World):Calls Tryz.prog 298 #[.string s] w fun e w'=>e=.returned (.bool false)∧w'=w:=by
 go_enter Tryz.func298,Tryz.ntmps298
 go_wp2
 go_ret
 exact ⟨by simp,rfl⟩
theorem sl_isNaNs (s:ByteArray) (w:World):Calls Tryz.prog 270 #[.string s] w fun e w'=>e=.returned (.bool false)∧w'=w:=by
 go_enter Tryz.func270,Tryz.ntmps270
 go_wp2
 go_ret
 exact ⟨by simp,rfl⟩
theorem cmp_LessS (x y:ByteArray) (w:World):Calls Tryz.prog 269 #[.string x,.string y] w fun e w'=>e=.returned (.bool (decide (cmpS x y < 0)))∧w'=w:=by
 have N:=Lib.hid (fun W=>cmp_isNaNs x W)
 have E:=Lib.hid (str_less x y)
 generalize decide (cmpS x y < 0)=r at E ⊢
 go_enter Tryz.func269,Tryz.ntmps269
 go_wp2_with fail
 refine (N.out _).mono ?_
 rintro e w1 ⟨rfl,rfl⟩
 go_wp2
 go_ret
 exact ⟨by rw [E.out];rfl,rfl⟩
end
section
open Go.RowKit Go.Shelf

theorem search_yes {l:List ByteArray} (hl:AscB l) {s:ByteArray} {h:Nat} (hh:h < l.length) (e:cmpS l[h] s < 0):∀ k (hk:k < l.length),k < h+1→cmpS l[k] s < 0:=fun k hk hkh=>by
 by_cases h':k=h
 ·subst h';exact e
 ·exact lt_trans'B (List.pairwise_iff_getElem.1 hl k h hk hh (by omega)) e
theorem search_no {l:List ByteArray} (hl:AscB l) {s:ByteArray} {h:Nat} (hh:h < l.length) (e:¬ cmpS l[h] s < 0):∀ k (hk:k < l.length),h≤k→¬ cmpS l[k] s < 0:=fun k hk hkh e'=>by
 by_cases h':k=h
 ·subst h';exact e e'
 ·exact e (lt_trans'B (List.pairwise_iff_getElem.1 hl h k hh hk (by omega)) e')
end
section
open Go.RowKit Go.Shelf

section
variable {t ba bb:Nat} {a b:List ByteArray} {w:World}
end
end
section
open Go.RowKit Go.Shelf

set_option maxHeartbeats 1000000 in
theorem ref1_HasB (va:Value) (l:List ByteArray) (s:ByteArray) (w:World) (ha:SlA w 1 va l.length (strs l)) :
  Calls Tryz.prog 231 #[va,.string s] w fun e w'=>e=.returned (.bool (hasB l s))∧w'=w:=by
 have HA:=Lib.hid ha
 have hmax:=ha.max
 have HY:=Lib.hid (fun k (hk:k < l.length) (e:l[k]=s)=>hasB_yes hk e)
 have HE:=Lib.hid (fun k (hk:¬ k < l.length) h=>hasB_end (l:=l) (s:=s) (k:=k) hk h)
 obtain ⟨ao,cap,hva⟩:=ha.form
 subst hva
 clear ha
 generalize hasB l s=r at HY HE ⊢
 go_enter Tryz.func231,Tryz.ntmps231
 go_wp2
 go_loop [9] (fun i => ∃ k:Nat,k≤l.length∧i=.int .i64 k∧Hid (∀ j (hj:j < l.length),j < k→¬ l[j]=s)) (fun i=>l.length - (intOf i).toNat)
 case atStart=>exact ⟨0,by omega,rfl,Lib.hid (fun _ _ h=>absurd h (by omega))⟩
 case round =>
  obtain ⟨k,hk,rfl,HT⟩:=hrel
  by_cases hlt:k < l.length
  ·obtain ⟨b1,o1,c1,he1,hc1,hm1,hb1,hx1⟩:=HA.out.pos (by omega)
   simp only [Value.slice.injEq,true_and] at he1
   obtain ⟨rfl,rfl⟩:=he1
   have p0:=hx1 k _ (strs_get hlt)
   clear hx1
   have bs:=beq_str l[k] s
   by_cases he:l[k]=s
   ·have R:=Lib.hid (HY.out k hlt he)
    rw [decide_eq_true he] at bs
    clear he
    go_wp2
    go_ret
    exact ⟨by rw [R.out];rfl,rfl⟩
   ·have HT2:Hid (∀ j (hj:j < l.length),j < k+1→¬ l[j]=s):=Lib.hid (fun j hj hjk=>by
     by_cases h:j < k
     ·exact HT.out j hj h
     ·obtain rfl:j=k:=by omega
      exact he)
    rw [decide_eq_false he] at bs
    clear he
    go_wp2
    exact ⟨⟨k+1,by omega,by go_num,HT2⟩,by simp [intOf];omega⟩
  ·have R:=Lib.hid (HE.out k hlt HT.out)
   go_wp2
   go_ret
   exact ⟨by rw [R.out];rfl,rfl⟩
structure PutI (l:List ByteArray) (s:ByteArray) (k:Nat) (d:Bool) (ss:List ByteArray):Prop where
 le:k≤l.length
 f:d=false→ss=l.take k∧∀ j (hj:j < l.length),j < k→cmpS l[j] s < 0
 t:d=true→posSB l s < k∧ss=insAtB (l.take k) s (posSB l s)
theorem PutI.start (l:List ByteArray) (s:ByteArray):PutI l s 0 false []:=⟨by omega,fun _=>⟨rfl,fun _ _ h=>absurd h (by omega)⟩,fun h=>by cases h⟩
theorem PutI.len {l:List ByteArray} {s:ByteArray} {k:Nat} {d:Bool} {ss:List ByteArray} (h:PutI l s k d ss):ss.length≤l.length+1:=by
 have hk:=h.le
 cases d with
 | false=>rw [(h.f rfl).1,List.length_take];omega
 | true =>
  have h1:=(h.t rfl).1
  rw [(h.t rfl).2,insAt_lenB (by rw [List.length_take];omega),List.length_take];omega
theorem insAt_last {l:List ByteArray} {x:ByteArray}:insAtB l x l.length=l++[x]:=by
 unfold insAtB
 rw [List.take_of_length_le (Nat.le_refl _),List.drop_of_length_le (Nat.le_refl _)]
theorem insAt_snoc {l:List ByteArray} {x y:ByteArray} {p:Nat} (hp:p≤l.length):insAtB l x p++[y]=insAtB (l++[y]) x p:=by
 unfold insAtB
 rw [List.take_append_of_le_length hp,List.drop_append_of_le_length hp,List.append_assoc];rfl
section
variable {l:List ByteArray} {s:ByteArray} {k:Nat} {ss:List ByteArray}
theorem PutI.yes (h:PutI l s k true ss) (hk:k < l.length):PutI l s (k+1) true (ss++[l[k]]):=by
 obtain ⟨h1,h2⟩:=h.t rfl
 refine ⟨hk,fun h=>(by cases h),fun _=>⟨by omega,?_⟩⟩
 rw [h2,insAt_snoc (by rw [List.length_take];omega),← List.take_succ_eq_append_getElem hk]
theorem lt_or (x y:ByteArray) (h:¬ x=y) (h':Op.bytesLess y.toList x.toList=false):cmpS x y < 0:=by
 rw [← str_less,decide_eq_false_iff_not] at h'
 have h1:¬ cmpS x y=0:=fun e=>h ((cmpS_zero x y).1 e)
 have h2:=cmpS_neg x y
 omega
theorem PutI.no (h:PutI l s k false ss) (hk:k < l.length) (hne:¬ l[k]=s) (hb:Op.bytesLess s.toList l[k].toList=false):PutI l s (k+1) false (ss++[l[k]]):=by
 obtain ⟨h1,h2⟩:=h.f rfl
 refine ⟨hk,fun _=>⟨by rw [h1,← List.take_succ_eq_append_getElem hk],fun j hj hjk=>?_⟩,fun h=>(by cases h)⟩
 by_cases h':j < k
 ·exact h2 j hj h'
 ·obtain rfl:j=k:=by omega
  exact lt_or _ _ hne hb
theorem PutI.put (h:PutI l s k false ss) (hk:k < l.length) (hb:Op.bytesLess s.toList l[k].toList=true):PutI l s (k+1) true (ss++[s]++[l[k]]):=by
 obtain ⟨h1,h2⟩:=h.f rfl
 have hp:posSB l s=k:=pos_ofB l s k (by omega) h2 (fun _=>by
  rw [← str_less] at hb
  have:=of_decide_eq_true hb
  have h3:=cmpS_neg s l[k]
  omega)
 refine ⟨hk,fun h=>(by cases h),fun _=>⟨by omega,?_⟩⟩
 have hk':(l.take k).length=k:=by rw [List.length_take];omega
 have e:insAtB (l.take k) s k=l.take k++[s]:=by have:=insAt_last (l:=l.take k) (x:=s);rwa [hk'] at this
 rw [hp,h1,List.take_succ_eq_append_getElem hk,← insAt_snoc (by rw [hk'];exact Nat.le_refl _),e]
theorem PutI.endT (h:PutI l s k true ss) (hk:l.length≤k):ss=insAtB l s (posSB l s):=by
 have:=(h.t rfl).2
 rwa [List.take_of_length_le hk] at this
theorem PutI.endF (h:PutI l s k false ss) (hk:l.length≤k):ss++[s]=insAtB l s (posSB l s):=by
 obtain ⟨h1,h2⟩:=h.f rfl
 have hp:posSB l s=l.length:=pos_ofB l s l.length (Nat.le_refl _) (fun j hj _=>h2 j hj (by omega)) (fun h=>absurd h (by omega))
 rw [hp,h1,List.take_of_length_le hk]
 unfold insAtB
 rw [List.take_of_length_le (Nat.le_refl _),List.drop_of_length_le (Nat.le_refl _)]
end
set_option maxRecDepth 100000 in
set_option maxHeartbeats 4000000 in
theorem ref1_PutB (va:Value) (l:List ByteArray) (s:ByteArray) (w:World) (ha:SlA w 1 va l.length (strs l)) (hn:l.length≤100000) :
  Calls Tryz.prog 168 #[va,.string s] w fun e w' => ∃ v,e=.returned v∧SlA w' 1 v (insSB l s).length (strs (insSB l s))∧Below w.heap.size w w':=by
 have HA:=Lib.hid ha
 have HH:=Lib.hid (ref1_HasB va l s w ha)
 have IY:=Lib.hid (fun h=>insS_hasB (l:=l) (x:=s) h)
 have IN:=Lib.hid (fun h=>insS_notB (l:=l) (x:=s) h)
 have NE:=Lib.hid (fun (h:hasB l s=false) k (hk:k < l.length)=>show ¬ l[k]=s from fun e=>absurd (hasB_yes hk e) (by rw [h];exact Bool.false_ne_true))
 generalize hasB l s=b at HH IY IN NE
 have hmax:=ha.max
 obtain ⟨ao,cap,hva⟩:=ha.form
 subst hva
 clear ha
 go_enter Tryz.func168,Tryz.ntmps168
 go_wp2_with fail
 refine HH.out.mono ?_
 rintro e w1 ⟨rfl,rfl⟩
 cases b with
 | true =>
  go_wp2
  go_ret
  exact ⟨_,rfl,by rw [IY.out (by first | rfl | trivial)];exact HA.out,Below.refl _ _⟩
 | false =>
  obtain ⟨wA,hwA⟩:∃ wA,wA=w1:=⟨_,rfl⟩
  subst hwA
  have INS:=Lib.hid (IN.out rfl)
  have NEQ:=Lib.hid (NE.out rfl)
  clear IY IN NE
  go_wp2_with fail
  go_loopw [5,6,15] (fun vo dv i wr => ∃ (k:Nat) (d:Bool) (ss:List ByteArray),k≤l.length∧i=.int .i64 k∧dv=.bool d∧Hid (PutI l s k d ss)∧Hid (Below wA.heap.size wA wr)∧Hid (wr.ownsRow wA.heap.size 9 1 vo ss.length (strs ss))) (fun _ _ i _=>l.length - (intOf i).toNat)
  case atStart=>exact ⟨0,false,[],by omega,rfl,rfl,Lib.hid (PutI.start l s),Lib.hid (Below.refl _ _),Lib.hid (World.ownsRow_nil _ _ _ _)⟩
  case round =>
   obtain ⟨k,d,ss,hk,rfl,rfl,HC,HB,HO⟩:=hrel
   obtain ⟨oo,oc,rfl⟩:=own_form HO.out
   have hss:ss.length≤100002:=by have:=HC.out.len;omega
   by_cases hlt:k < l.length
   ·obtain ⟨b1,o1,c1,he1,hc1,hm1,hb1,hx1⟩:=HA.out.pos (by omega)
    simp only [Value.slice.injEq,true_and] at he1
    obtain ⟨rfl,rfl⟩:=he1
    have p0:=(HB.out.cell (p:=⟨b1,o1+k,none⟩) hb1).trans (hx1 k _ (strs_get hlt))
    have hbr:b1 < wr.heap.size:=Nat.lt_of_lt_of_le hb1 HB.out.size
    have PY:=Lib.hid (fun (h:PutI l s k true ss)=>h.yes hlt)
    have PN:=Lib.hid (fun (h:PutI l s k false ss) e=>h.no hlt (NEQ.out k hlt) e)
    have PP:=Lib.hid (fun (h:PutI l s k false ss) e=>h.put hlt e)
    clear hx1
    generalize l[k]=x at *
    cases d with
    | true =>
     have HC':=HC.out
     have hown:=HO.out
     go_wp2_with (at_builtin;refine halt_ ?_)
     unfold Halt_
     refine app_own Tryz.underlying27 str_info rfl (by decide) (by decide) rfl _ _ rfl wA.heap.size rfl (hown.alloc _) [.string x] rfl (heap_new1 _ _) rfl (str1 _) ?_ ?_ ?_
     ·omega
     ·have:=HB.out.size;simp;omega
     intro a' cap' w3 hown' hgrow
     obtain ⟨q1,q2⟩:=own_push (x:=x) HB.out hown hown' hgrow
     have HO1:=Lib.hid q1
     have HB1:=Lib.hid q2
     clear hown hown' hgrow q1 q2
     go_wp2_with fail
     exact ⟨⟨k+1,true,ss++[x],by omega,by go_num,rfl,Lib.hid (PY.out HC'),HB1,HO1⟩,by simp [intOf];omega⟩
    | false =>
     have HC':=HC.out
     cases hbl:Op.bytesLess s.toList x.toList with
     | false =>
      have hown:=HO.out
      go_wp2_with (at_builtin;refine halt_ ?_)
      unfold Halt_
      refine app_own Tryz.underlying27 str_info rfl (by decide) (by decide) rfl _ _ rfl wA.heap.size rfl (hown.alloc _) [.string x] rfl (heap_new1 _ _) rfl (str1 _) ?_ ?_ ?_
      ·omega
      ·have:=HB.out.size;simp;omega
      intro a' cap' w3 hown' hgrow
      obtain ⟨q1,q2⟩:=own_push (x:=x) HB.out hown hown' hgrow
      have HO1:=Lib.hid q1
      have HB1:=Lib.hid q2
      clear hown hown' hgrow q1 q2
      go_wp2_with fail
      exact ⟨⟨k+1,false,ss++[x],by omega,by go_num,rfl,Lib.hid (PN.out HC' hbl),HB1,HO1⟩,by simp [intOf];omega⟩
     | true =>
      have hown:=HO.out
      go_wp2_with (at_builtin;refine halt_ ?_)
      unfold Halt_
      refine app_own Tryz.underlying27 str_info rfl (by decide) (by decide) rfl _ _ rfl wA.heap.size rfl (hown.alloc _) [.string s] rfl (heap_new1 _ _) rfl (str1 _) ?_ ?_ ?_
      ·omega
      ·have:=HB.out.size;simp;omega
      intro a' cap' w3 hown' hgrow
      obtain ⟨q1,q2⟩:=own_push (x:=s) HB.out hown hown' hgrow
      have HO1:=Lib.hid q1
      have HB1:=Lib.hid q2
      clear hown hown' hgrow q1 q2
      have hown:=HO1.out
      go_wp2_with (at_builtin;refine halt_ ?_)
      unfold Halt_
      refine app_own Tryz.underlying27 str_info rfl (by decide) (by decide) rfl _ _ rfl wA.heap.size rfl (hown.alloc _) [.string x] rfl (heap_new1 _ _) rfl (str1 _) ?_ ?_ ?_
      ·(simp only [List.length_append,List.length_cons,List.length_nil];omega)
      ·have:=HB1.out.size;simp;omega
      intro a' cap' w3 hown' hgrow
      obtain ⟨q1,q2⟩:=own_push (x:=x) HB1.out hown hown' hgrow
      have HO2:=Lib.hid q1
      have HB2:=Lib.hid q2
      clear hown hown' hgrow q1 q2
      go_wp2_with fail
      refine ⟨⟨k+1,true,ss++[s]++[x],by omega,by go_num,rfl,Lib.hid (PP.out HC' hbl),HB2,Lib.hid (by have h:=HO2.out;rw [show (ss++[s]).length+1=ss.length+1+1 by simp] at h;exact h)⟩,by simp [intOf];omega⟩
   ·cases d with
    | true =>
     have HC':=HC.out
     have HSL:=Lib.hid (Sl.of_own HO.out).a
     go_wp2
     go_ret
     exact ⟨_,rfl,by rw [INS.out,← HC'.endT (by omega)];exact HSL.out,HB.out⟩
    | false =>
     have HC':=HC.out
     have hown:=HO.out
     go_wp2_with (at_builtin;refine halt_ ?_)
     unfold Halt_
     refine app_own Tryz.underlying27 str_info rfl (by decide) (by decide) rfl _ _ rfl wA.heap.size rfl (hown.alloc _) [.string s] rfl (heap_new1 _ _) rfl (str1 _) ?_ ?_ ?_
     ·omega
     ·have:=HB.out.size;simp;omega
     intro a' cap' w3 hown' hgrow
     obtain ⟨q1,q2⟩:=own_push (x:=s) HB.out hown hown' hgrow
     have HO1:=Lib.hid q1
     have HB1:=Lib.hid q2
     clear hown hown' hgrow q1 q2
     have HSL:=Lib.hid (Sl.of_own HO1.out).a
     go_wp2
     go_ret
     exact ⟨_,rfl,by rw [INS.out,← HC'.endF (by omega)];exact HSL.out,HB1.out⟩
end
end Go.Proofs.YtomhekohcadijaaGreatDoor
