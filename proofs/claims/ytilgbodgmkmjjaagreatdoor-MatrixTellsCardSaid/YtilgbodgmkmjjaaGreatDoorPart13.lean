/- Parts: Ref11F SetBits KpLaw RegLast SetFns SetList SetNew TabFor -/
import Derived.Test.YtilgbodgmkmjjaaGreatDoorPart8
import Derived.Test.YtilgbodgmkmjjaaGreatDoorPart12
import Derived.Test.YtilgbodgmkmjjaaGreatDoorPart7
import Derived.Lib.TrailingZeros
import Derived.Laws.Bits64b
import Derived.WalkSmall
import Derived.Test.YtilgbodgmkmjjaaGreatDoorPart6
import Derived.Test.YtilgbodgmkmjjaaGreatDoorPart11
namespace Go.Proofs.YtilgbodgmkmjjaaGreatDoor
section
open Go.RowKit Go.Shelf

def gOne (x:ByteArray) (s:St) (q:Pr):List ByteArray:=if q.1=⟨x,s.via⟩ then [q.2] else []
def fOne (ps:List Pr) (s:St) (p:Pr):List ByteArray:=if p.1=s.a then (if s.k=2∨s.k=4∧hasP ps s.b p.2=true then [p.2] else [])++(if s.k=3 then ps.flatMap (gOne p.2 s) else []) else []
theorem follows_one {ps:List Pr} {s:St} (h:s.k=1):followsR ps s=[s.who]:=by unfold followsR;rw [if_pos h]
theorem follows_two {ps:List Pr} {s:St} (h:¬ s.k=1):followsR ps s=ps.flatMap (fOne ps s):=by unfold followsR;rw [if_neg h];rfl
theorem flatMap_le {α β:Type} (f:α→List β) (c:Nat) (h:∀ x,(f x).length≤c):∀ l:List α,(l.flatMap f).length≤l.length * c
 | []=>by simp
 | a :: l=>by
  have h1:=h a
  have h2:=flatMap_le f c h l
  rw [List.flatMap_cons,List.length_append,List.length_cons,Nat.succ_mul]
  omega
theorem gOne_len (x:ByteArray) (s:St) (q:Pr):(gOne x s q).length≤1:=by unfold gOne;split <;> simp
theorem fOne_len (ps:List Pr) (s:St) (p:Pr):(fOne ps s p).length≤ps.length+1:=by
 have h:=flatMap_le (gOne p.2 s) 1 (gOne_len p.2 s) ps
 unfold fOne
 split
 ·rw [List.length_append]
  have h1:(if s.k=2∨s.k=4∧hasP ps s.b p.2=true then [p.2] else []).length≤1:=by split <;> simp
  have h2:(if s.k=3 then ps.flatMap (gOne p.2 s) else []).length≤ps.length:=by
   split
   ·omega
   ·exact Nat.zero_le _
  omega
 ·simp
theorem fOne_no {ps:List Pr} {s:St} {p:Pr} (h:¬ p.1=s.a):fOne ps s p=[]:=by unfold fOne;rw [if_neg h]
theorem fOne_2 {ps:List Pr} {s:St} {p:Pr} (h:p.1=s.a) (hk:s.k=2):fOne ps s p=[p.2]:=by unfold fOne;rw [if_pos h,if_pos (.inl hk),if_neg (by omega)];simp
theorem fOne_3 {ps:List Pr} {s:St} {p:Pr} (h:p.1=s.a) (hk:s.k=3):fOne ps s p=ps.flatMap (gOne p.2 s):=by unfold fOne;rw [if_pos h,if_neg (by omega),if_pos hk];simp
theorem fOne_4 {ps:List Pr} {s:St} {p:Pr} (h:p.1=s.a) (hk:s.k=4):fOne ps s p=if hasP ps s.b p.2=true then [p.2] else []:=by
 unfold fOne
 rw [if_pos h,if_neg (show ¬ s.k=3 by omega),List.append_nil]
 by_cases hh:hasP ps s.b p.2=true
 ·rw [if_pos (.inr ⟨hk,hh⟩),if_pos hh]
 ·rw [if_neg (fun h1=>h1.elim (fun h1=>by omega) (fun h1=>hh h1.2)),if_neg hh]
theorem fOne_o {ps:List Pr} {s:St} {p:Pr} (h2:¬ s.k=2) (h3:¬ s.k=3) (h4:¬ s.k=4):fOne ps s p=[]:=by
 unfold fOne
 rw [if_neg (show ¬ (s.k=2∨s.k=4∧_) from fun h1=>h1.elim (fun h1=>h2 h1) (fun h1=>h4 h1.1)),if_neg h3]
 split <;> rfl
theorem own_baseF {w:World} {base base' size n:Nat} {e:TypeId} {v:Value} {xs:List Value} (h:w.ownsRow base e size v n xs) (hb:base'≤base):w.ownsRow base' e size v n xs:=by
 refine ⟨h.1,?_⟩
 rcases h.2 with h2 | ⟨g,cap,cur,hv,h1,h3⟩
 ·exact .inl h2
 ·exact .inr ⟨g,cap,cur,hv,Nat.le_trans hb h1,h3⟩
def XAt (w:World) (b:Nat) (y1 y2 y3:ByteArray):Prop:=w.heap[b]? = some (.cells #[.string y1,.string y2,.string y3] 78 (0,0))
theorem XAt.blk {w:World} {b:Nat} {y1 y2 y3:ByteArray} (h:XAt w b y1 y2 y3):Blk w b #[.string y1,.string y2,.string y3]:=blk_of h
theorem XAt.lt {w:World} {b:Nat} {y1 y2 y3:ByteArray} (h:XAt w b y1 y2 y3):b < w.heap.size:=(Array.getElem?_eq_some_iff.1 h).1
theorem XAt.below {w w':World} {b:Nat} {y1 y2 y3:ByteArray} (h:XAt w b y1 y2 y3) (hb:Below w.heap.size w w'):XAt w' b y1 y2 y3:=(hb.block b h.lt).trans h
theorem XAt.alloc {w:World} {b:Nat} {y1 y2 y3:ByteArray} (h:XAt w b y1 y2 y3) (o:Obj):XAt (w.alloc o) b y1 y2 y3:=h.below ((Below.refl _ _).alloc (Nat.le_refl _) o)
theorem XAt.grown {w w':World} {b base n:Nat} {y1 y2 y3:ByteArray} {v:Value} {xs:List Value} (h:XAt w b y1 y2 y3) (ho:w.ownsRow base 9 1 v n xs) (hg:w.grownBy w' v.ownBlock):XAt w' b y1 y2 y3 :=
 (hg.block b h.lt (own_tag ho h (by decide))).trans h
theorem strs_snoc (ys:List ByteArray) (x:ByteArray):strs (ys++[x])=strs ys++[.string x]:=by unfold strs;rw [List.map_append];rfl
theorem push_strF {w wr w3:World} {A:Array Value} {vo:Value} {ys:List ByteArray} {x:ByteArray} {o:Obj} {a':Option Addr} {cap':Nat} (ht:OneAt w A wr) (hown:wr.ownsRow (w.heap.size+1) 9 1 vo ys.length (strs ys))
  (h:w3.ownsRow (w.heap.size+1) 9 1 (.slice a' (ys.length+1) cap') (ys.length+1) (strs ys++[.string x])) (hg:(wr.alloc o).grownBy w3 vo.ownBlock) :
  w3.ownsRow (w.heap.size+1) 9 1 (.slice a' (ys.length+1) cap') (ys++[x]).length (strs (ys++[x]))∧OneAt w A w3:=by
 refine ⟨by rw [List.length_append,strs_snoc];exact h,(ht.a.alloc o).grown hg (own_gt_ne hown (Nat.lt_succ_self _)),?_⟩
 exact below_own (ht.low.alloc ht.low.size o) (hown.alloc _) hg (by have:=ht.low.size;simp;omega) (Nat.le_succ _)
set_option maxRecDepth 100000 in
set_option maxHeartbeats 8000000 in
theorem ref11_follows (va:Value) (ps:List Pr) (s:St) (w:World) (ha:SlA w 3 va ps.length (ps.flatMap pcells)) (hn:ps.length≤2000) :
  Calls Tryz.prog 125 #[va,sv s] w fun e w' => ∃ v,e=.returned v∧w'.ownsRow w.heap.size 9 1 v (followsR ps s).length (strs (followsR ps s))∧Below w.heap.size w w':=by
 have hEq:=role_eql
 have hNe:=role_neq
 have HA:=Lib.hid ha
 have IN:=Lib.hid (fun x W (hb:Below w.heap.size w W)=>ref11_In va ps s.b x W (ha.below hb))
 have F1:=Lib.hid (fun h=>follows_one (ps:=ps) (s:=s) h)
 have F2:=Lib.hid (fun h=>follows_two (ps:=ps) (s:=s) h)
 have hmax:=ha.max
 obtain ⟨a0,c0,rfl⟩:=ha.form
 clear ha
 by_cases k1:s.k=1
 ·rw [F1.out k1]
  clear F1 F2 IN HA
  obtain ⟨k,⟨h1,h2⟩,who,⟨s1,s2⟩,⟨s3,s4⟩,via⟩:=s
  dsimp only at k1
  subst k1
  go_enter Tryz.func125,Tryz.ntmps125
  go_wp2_with fail
  go_ret
  exact ⟨.slice (some ⟨w.heap.size+1,0,none⟩) 1 1,rfl,⟨rfl,.inr ⟨w.heap.size+1,1,#[.string who],rfl,Nat.le_succ _,heap_new2 _ _ _,Nat.le_refl _,by simp [maxLen],rfl,rfl⟩⟩,((Below.refl _ _).alloc (Nat.le_refl _) _).alloc (by simp) _⟩
 ·have F2':=Lib.hid (F2.out k1)
  have N2:=Lib.hid (fun p h=>fOne_no (ps:=ps) (s:=s) (p:=p) h)
  have N20:=Lib.hid (fun p h hk=>fOne_2 (ps:=ps) (s:=s) (p:=p) h hk)
  have N30:=Lib.hid (fun p h hk=>fOne_3 (ps:=ps) (s:=s) (p:=p) h hk)
  have N40:=Lib.hid (fun p h hk=>fOne_4 (ps:=ps) (s:=s) (p:=p) h hk)
  have N50:=Lib.hid (fun p h2 h3 h4=>fOne_o (ps:=ps) (s:=s) (p:=p) h2 h3 h4)
  have FLen:=Lib.hid (fun k=>flatMap_le (fOne ps s) (ps.length+1) (fOne_len ps s) (ps.take k))
  have GO:=Lib.hid (fun x (q:Pr)=>show gOne x s q=if eqRl q.1 ⟨x,s.via⟩=true then [q.2] else [] by
   unfold gOne eqRl;by_cases h:q.1=⟨x,s.via⟩
   ·rw [if_pos h,if_pos (decide_eq_true h)]
   ·rw [if_neg h,if_neg (by rw [decide_eq_false h];exact Bool.false_ne_true)])
  have GLen:=Lib.hid (fun x j=>flatMap_le (gOne x s) 1 (gOne_len x s) (ps.take j))
  have FS:=Lib.hid (fun k (hk:k < ps.length)=>flat_snocF (fOne ps s) hk)
  have GS:=Lib.hid (fun x k (hk:k < ps.length)=>flat_snocF (gOne x s) hk)
  rw [F2'.out]
  clear F1 F2 F2'
  generalize fOne ps s=ff at *
  generalize hgg:(fun x=>gOne x s)=gg at *
  have GO':Hid (∀ x (q:Pr),gg x q=if eqRl q.1 ⟨x,s.via⟩=true then [q.2] else []):=Lib.hid (by rw [← hgg];exact GO.out)
  have GLen':Hid (∀ x j,((ps.take j).flatMap (gg x)).length≤(ps.take j).length * 1):=Lib.hid (by rw [← hgg];exact GLen.out)
  have GS':Hid (∀ x k (hk:k < ps.length),(ps.take (k+1)).flatMap (gg x)=(ps.take k).flatMap (gg x)++gg x ps[k]):=Lib.hid (by rw [← hgg];exact GS.out)
  have N30':Hid (∀ (p:Pr),p.1=s.a→s.k=3→ff p=ps.flatMap (gg p.2)):=Lib.hid (by rw [← hgg];exact N30.out)
  clear hgg GO GLen GS N30
  obtain ⟨k,⟨h1,h2⟩,who,⟨s1,s2⟩,⟨s3,s4⟩,via⟩:=s
  dsimp only at *
  have d1:(k == 1)=false:=by rw [beq_eq_false_iff_ne];exact k1
  have HT0:=Lib.hid (show OneAt w #[.int .i64 k,.string h1,.string h2,.string who,.string s1,.string s2,.string s3,.string s4,.string via] (w.alloc (.cells #[.int .i64 k,.string h1,.string h2,.string who,.string s1,.string s2,.string s3,.string s4,.string via] 74)) from ⟨Blk.new w _ _,(Below.refl _ _).alloc (Nat.le_refl _) _⟩)
  go_enter Tryz.func125,Tryz.ntmps125
  go_wp2_with fail
  go_loopw [5,18] (fun vo i wr => ∃ (n:Nat) (ys:List ByteArray),n≤ps.length∧i=.int .i64 n∧Hid (ys=(ps.take n).flatMap ff)∧Hid (OneAt w #[.int .i64 k,.string h1,.string h2,.string who,.string s1,.string s2,.string s3,.string s4,.string via] wr)∧Hid (wr.ownsRow (w.heap.size+1) 9 1 vo ys.length (strs ys))) (fun _ i _=>ps.length - (intOf i).toNat)
  case atStart=>exact ⟨0,[],by omega,rfl,Lib.hid rfl,HT0,Lib.hid (World.ownsRow_nil _ _ _ _)⟩
  case round =>
   clear HT0
   obtain ⟨n,ys,hnle,rfl,HE,HT,HO⟩:=hrel
   obtain ⟨oo,oc,rfl⟩:=own_form HO.out
   by_cases hlt:n < ps.length
   ·obtain ⟨b1,o1,e1,he1,hc1,hm1',hb1,hx1⟩:=HA.out.pos (by omega)
    simp only [Value.slice.injEq,true_and] at he1
    obtain ⟨rfl,rfl⟩:=he1
    obtain ⟨p0,p1,p2⟩:=pr_cell (w:=wr) (fun j u hu=>(HT.out.low.cell (p:=⟨b1,o1+j,none⟩) hb1).trans (hx1 j u hu)) n hlt
    have hbr:b1 < wr.heap.size:=Nat.lt_of_lt_of_le hb1 HT.out.low.size
    have HS:=Lib.hid (FS.out n hlt)
    have hyl:ys.length≤2000 * 2001:=by
     have h3:=FLen.out n
     rw [← HE.out] at h3
     have h4:=List.length_take_le n ps
     have h5:(ps.take n).length * (ps.length+1)≤2000 * 2001:=Nat.mul_le_mul (by omega) (by omega)
     omega
    clear hx1
    have hpm:=List.getElem_mem hlt
    generalize ps[n]=p at *
    have M2:=Lib.hid (N2.out p)
    have M20:=Lib.hid (N20.out p)
    have M30:=Lib.hid (N30'.out p)
    have M40:=Lib.hid (N40.out p)
    have M50:=Lib.hid (N50.out p)
    clear hpm
    generalize ff p=fp at *
    obtain ⟨⟨y1,y2⟩,y3⟩:=p
    dsimp only at M2 M20 M30 M40
    have HX1:=Lib.hid (show XAt (wr.alloc (.cells #[.string y1,.string y2,.string y3] 78)) wr.heap.size y1 y2 y3 from heap_new1 _ _)
    have HT1:=Lib.hid (HT.out.alloc (.cells #[.string y1,.string y2,.string y3] 78))
    have HO1:=Lib.hid (HO.out.alloc (.cells #[.string y1,.string y2,.string y3] 78))
    obtain ⟨cs,fs,zs⟩:=HT.out.a
    cases he:eqRl ⟨y1,y2⟩ ⟨s1,s2⟩ with
    | false =>
     have HF:=Lib.hid (M2.out (of_decide_eq_false he))
     clear M2 M20 M30 M40 M50
     go_wp2_with fail
     exact ⟨⟨n+1,ys,by omega,by go_num,Lib.hid (by rw [HS.out,HF.out,HE.out];simp),HT1,HO1⟩,by simp [intOf];omega⟩
    | true =>
     have he':(⟨y1,y2⟩:Rl)=⟨s1,s2⟩:=of_decide_eq_true he
     have M20:=Lib.hid (M20.out he')
     have M30:=Lib.hid (M30.out he')
     have M40:=Lib.hid (M40.out he')
     clear M2 he'
     by_cases k2:k=2
     ·subst k2
      have HF:=Lib.hid (M20.out rfl)
      clear M20 M30 M40 M50
      go_wp2_with (at_builtin;refine halt_ ?_)
      unfold Halt_
      refine app_own Tryz.underlying38 str_info rfl (by decide) (by decide) rfl _ _ rfl (w.heap.size+1) rfl (HO1.out.alloc _) [.string y3] rfl (heap_new2 _ _ _) rfl (str1 _) ?_ ?_ ?_
      ·omega
      ·have:=HT.out.low.size;simp;omega
      intro a' cap' w3 hown' hgrow
      obtain ⟨q1,q2⟩:=push_strF (x:=y3) HT1.out HO1.out hown' hgrow
      have HO3:=Lib.hid q1
      have HT3:=Lib.hid q2
      obtain ⟨cs3,fs3,zs3⟩:=q2.a
      clear hown' hgrow q1 q2 cs fs zs
      go_wp2_with fail
      exact ⟨⟨n+1,ys++[y3],by omega,by go_num,Lib.hid (by rw [HS.out,HF.out,HE.out]),HT3,HO3⟩,by simp [intOf];omega⟩
     ·have d2:(k == 2)=false:=by rw [beq_eq_false_iff_ne];exact k2
      by_cases k4:k=4
      ·subst k4
       have HF:=Lib.hid (M40.out rfl)
       have INy:=Lib.hid (IN.out y3)
       generalize hasP ps ⟨s3,s4⟩ y3=t at *
       clear M20 M30 M40 M50
       go_wp2_with fail
       refine (INy.out _ HT1.out.low).mono ?_
       rintro e w2 ⟨rfl,hb⟩
       have HT2:=Lib.hid (HT1.out.later hb)
       have HO2:=Lib.hid (own_below HO1.out hb)
       have HX2:=Lib.hid (HX1.out.below hb)
       clear hb HT1 HO1 HX1 cs fs zs
       obtain ⟨cs,fs,zs⟩:=HT2.out.a
       obtain ⟨cx,fx,zx⟩:=HX2.out.blk
       cases t with
       | true =>
        go_wp2_with (at_builtin;refine halt_ ?_)
        unfold Halt_
        refine app_own Tryz.underlying38 str_info rfl (by decide) (by decide) rfl _ _ rfl (w.heap.size+1) rfl (HO2.out.alloc _) [.string y3] rfl (heap_new1 _ _) rfl (str1 _) ?_ ?_ ?_
        ·omega
        ·have:=HT2.out.low.size;simp;omega
        intro a' cap' w3 hown' hgrow
        obtain ⟨q1,q2⟩:=push_strF (x:=y3) HT2.out HO2.out hown' hgrow
        have HO3:=Lib.hid q1
        have HT3:=Lib.hid q2
        obtain ⟨cs3,fs3,zs3⟩:=q2.a
        clear hown' hgrow q1 q2 cs fs zs cx fx zx
        go_wp2_with fail
        exact ⟨⟨n+1,ys++[y3],by omega,by go_num,Lib.hid (by rw [HS.out,HF.out,HE.out];simp),HT3,HO3⟩,by simp [intOf];omega⟩
       | false =>
        go_wp2_with fail
        exact ⟨⟨n+1,ys,by omega,by go_num,Lib.hid (by rw [HS.out,HF.out,HE.out];simp),HT2,HO2⟩,by simp [intOf];omega⟩
      ·have d4:(k == 4)=false:=by rw [beq_eq_false_iff_ne];exact k4
       by_cases k3:k=3
       ·subst k3
        have HF:=Lib.hid (M30.out rfl)
        have HGO:=Lib.hid (GO'.out y3)
        have HGL:=Lib.hid (GLen'.out y3)
        have HGS:=Lib.hid (GS'.out y3)
        clear M20 M30 M40 M50 GO' GLen' GS'
        generalize gg y3=g at *
        go_wp2_with fail
        have hx0:wr.heap.size < (wr.alloc (.cells #[.string y1,.string y2,.string y3] 78)).heap.size:=by simp
        generalize hxb:wr.heap.size=xb at *
        generalize hwa:wr.alloc (.cells #[.string y1,.string y2,.string y3] 78)=wa at *
        clear hwa hxb cs fs zs p0 p1 p2 HT HO
        go_loopw [5,53] (fun vo i wr => ∃ (j:Nat) (zs:List ByteArray),j≤ps.length∧i=.int .i64 j∧Hid (zs=ys++(ps.take j).flatMap g)∧Hid (OneAt w #[.int .i64 3,.string h1,.string h2,.string who,.string s1,.string s2,.string s3,.string s4,.string via] wr)∧Hid (XAt wr xb y1 y2 y3)∧Hid (wr.ownsRow (w.heap.size+1) 9 1 vo zs.length (strs zs))) (fun _ i _=>ps.length - (intOf i).toNat)
        case atStart=>exact ⟨0,ys,by omega,rfl,Lib.hid (by simp),HT1,HX1,HO1⟩
        case round =>
         clear HT1 HX1 HO1
         obtain ⟨j,zs,hjle,rfl,HEj,HT,HX,HO⟩:=hrel
         obtain ⟨oo,oc,rfl⟩:=own_form HO.out
         obtain ⟨cs,fs,zs0⟩:=HT.out.a
         obtain ⟨cx,fx,zx⟩:=HX.out.blk
         by_cases hlj:j < ps.length
         ·obtain ⟨q0,q1,q2⟩:=pr_cell (w:=wr) (fun j u hu=>(HT.out.low.cell (p:=⟨b1,o1+j,none⟩) hb1).trans ((HA.out.pos (by omega)).elim fun b2 h=>h.elim fun o2 h=>h.elim fun c2 h=>by
           have h0:=h.1
           simp only [Value.slice.injEq,Option.some.injEq,Addr.mk.injEq,true_and] at h0
           obtain ⟨⟨e1,e2,_⟩,_⟩:=h0
           rw [e1,e2]
           exact h.2.2.2.2 j u hu)) j hlj
          have hbr2:b1 < wr.heap.size:=Nat.lt_of_lt_of_le hb1 HT.out.low.size
          have HSj:=Lib.hid (HGS.out j hlj)
          have hzl:zs.length≤2000 * 2001+2000:=by
           have h3:=HGL.out j
           have h4:=List.length_take_le j ps
           rw [HEj.out,List.length_append]
           omega
          generalize ps[j]=q at *
          have HGq:=Lib.hid (HGO.out q)
          generalize g q=gq at *
          obtain ⟨⟨z1,z2⟩,z3⟩:=q
          dsimp only at HGq
          have HX1:=Lib.hid (HX.out.alloc (.cells #[.string z1,.string z2,.string z3] 78))
          have HT1:=Lib.hid (HT.out.alloc (.cells #[.string z1,.string z2,.string z3] 78))
          have HO1:=Lib.hid (HO.out.alloc (.cells #[.string z1,.string z2,.string z3] 78))
          cases hz:eqRl ⟨z1,z2⟩ ⟨y3,via⟩ with
          | true =>
           have HGr:=Lib.hid (HGq.out.trans (if_pos hz))
           clear HGq
           go_wp2_with (at_builtin;refine halt_ ?_)
           unfold Halt_
           refine app_own Tryz.underlying38 str_info rfl (by decide) (by decide) rfl _ _ rfl (w.heap.size+1) rfl (HO1.out.alloc _) [.string z3] rfl (heap_new2 _ _ _) rfl (str1 _) ?_ ?_ ?_
           ·omega
           ·have:=HT.out.low.size;simp;omega
           intro a' cap' w3 hown' hgrow
           have HX3:=Lib.hid ((HX1.out.alloc _).grown (HO1.out.alloc _) hgrow)
           obtain ⟨r1,r2⟩:=push_strF (x:=z3) HT1.out HO1.out hown' hgrow
           have HO3:=Lib.hid r1
           have HT3:=Lib.hid r2
           clear hown' hgrow r1 r2 cs fs zs0 cx fx zx
           go_wp2_with fail
           exact ⟨⟨j+1,zs++[z3],by omega,by go_num,Lib.hid (by rw [HSj.out,HGr.out,HEj.out,List.append_assoc]),HT3,HX3,HO3⟩,by simp [intOf];omega⟩
          | false =>
           have HGr:=Lib.hid (HGq.out.trans (if_neg (by rw [hz];exact Bool.false_ne_true)))
           clear HGq
           go_wp2_with fail
           exact ⟨⟨j+1,zs,by omega,by go_num,Lib.hid (by rw [HSj.out,HGr.out,HEj.out];simp),HT1,HX1,HO1⟩,by simp [intOf];omega⟩
         ·have HEE:=Lib.hid (show zs=(ps.take (n+1)).flatMap ff by rw [HS.out,HF.out,← HE.out,HEj.out,List.take_of_length_le (show ps.length≤j by omega)])
          go_wp2_with fail
          exact ⟨⟨n+1,zs,by omega,by go_num,HEE,HT,HO⟩,by simp [intOf];omega⟩
       ·have d3:(k == 3)=false:=by rw [beq_eq_false_iff_ne];exact k3
        have HF:=Lib.hid (M50.out k2 k3 k4)
        clear M20 M30 M40 M50
        go_wp2_with fail
        exact ⟨⟨n+1,ys,by omega,by go_num,Lib.hid (by rw [HS.out,HF.out,HE.out];simp),HT1,HO1⟩,by simp [intOf];omega⟩
   ·have HRS:=Lib.hid (show ys=ps.flatMap ff by rw [HE.out,List.take_of_length_le (show ps.length≤n by omega)])
    go_wp2
    go_ret
    exact ⟨_,rfl,by rw [← HRS.out];exact own_baseF HO.out (Nat.le_succ _),HT.out.low⟩
end
section
open Go.RowKit Go.Shelf

theorem asc_uniqueN:∀ (l m:List Nat),l.Pairwise (· < ·)→m.Pairwise (· < ·)→(∀ x,x∈l↔x∈m)→l=m
 | [],[],_,_,_=>rfl
 | [],b :: m,_,_,h=>by have:=(h b).2 (List.mem_cons_self ..);cases this
 | a :: l,[],_,_,h=>by have:=(h a).1 (List.mem_cons_self ..);cases this
 | a :: l,b :: m,hl,hm,h=>by
  rw [List.pairwise_cons] at hl hm
  have e:a=b:=by
   have h1:=(h a).1 (List.mem_cons_self ..)
   have h2:=(h b).2 (List.mem_cons_self ..)
   rcases List.mem_cons.1 h1 with h1 | h1
   ·exact h1
   ·rcases List.mem_cons.1 h2 with h2 | h2
    ·exact h2.symm
    ·have:=hm.1 a h1;have:=hl.1 b h2;omega
  subst e
  rw [asc_uniqueN l m hl.2 hm.2 (fun x=>by
   have hx:=h x
   simp only [List.mem_cons] at hx
   constructor
   ·intro hxl
    rcases hx.1 (.inr hxl) with rfl | h'
    ·have:=hl.1 x hxl;omega
    ·exact h'
   ·intro hxm
    rcases hx.2 (.inr hxm) with rfl | h'
    ·have:=hm.1 x hxm;omega
    ·exact h')]
def bitsOf (m:Nat):List Nat:=(List.range 64).filter (fun c=>m.testBit c)
theorem bitsOf_asc (m:Nat):(bitsOf m).Pairwise (· < ·):=List.Pairwise.filter _ List.pairwise_lt_range
theorem bitsOf_mem {m c:Nat}:c∈bitsOf m↔c < 64∧m.testBit c=true:=by unfold bitsOf;rw [List.mem_filter,List.mem_range]
theorem low_bit:∀ (f m:Nat),0 < m→m < 2 ^ f→m.testBit (Lib.ctzFrom f m)=true∧(∀ i,i < Lib.ctzFrom f m→m.testBit i=false)∧Lib.ctzFrom f m < f∧∀ i,(m &&& (m - 1)).testBit i=(m.testBit i && decide (i≠Lib.ctzFrom f m))
 | 0,m,h0,h=>by simp at h;omega
 | f+1,m,h0,h=>by
  unfold Lib.ctzFrom
  by_cases h1:m % 2=1
  ·rw [if_pos h1]
   have e0:m.testBit 0=true:=by rw [Nat.testBit_zero];exact decide_eq_true h1
   refine ⟨e0,fun i hi=>absurd hi (by omega),by omega,fun i=>?_⟩
   rw [Nat.testBit_and]
   cases i with
   | zero =>
    have:(m - 1).testBit 0=false:=by rw [Nat.testBit_zero];exact decide_eq_false (by omega)
    rw [this];simp
   | succ i =>
    rw [Nat.testBit_succ,Nat.testBit_succ,show (m - 1) / 2=m / 2 by omega];simp
  ·rw [if_neg h1]
   have hx:m / 2 < 2 ^ f:=by rw [Nat.pow_succ] at h;omega
   obtain ⟨a1,a2,a3,a4⟩:=low_bit f (m / 2) (by omega) hx
   refine ⟨?_,?_,by omega,fun i=>?_⟩
   ·rw [Nat.add_comm,Nat.testBit_succ];exact a1
   ·intro i hi
    cases i with
    | zero=>rw [Nat.testBit_zero];exact decide_eq_false h1
    | succ i=>rw [Nat.testBit_succ];exact a2 i (by omega)
   ·cases i with
    | zero =>
     rw [Nat.testBit_and,show m.testBit 0=false by rw [Nat.testBit_zero];exact decide_eq_false h1];simp
    | succ i =>
     have:=a4 i
     rw [Nat.testBit_and] at this ⊢
     rw [Nat.testBit_succ,Nat.testBit_succ,show (m - 1) / 2=m / 2 - 1 by omega,this]
     congr 1
     simp only [ne_eq,decide_not]
     congr 1
     rw [decide_eq_decide]
     omega
theorem bits_step {m:Nat} (h0:0 < m) (h:m < 2 ^ 64):bitsOf m=Lib.ctz 64 m :: bitsOf (m &&& (m - 1))∧Lib.ctz 64 m < 64∧(m &&& (m - 1)) < 2 ^ 64:=by
 obtain ⟨a1,a2,a3,a4⟩:=low_bit 64 m h0 h
 have e:Lib.ctz 64 m=Lib.ctzFrom 64 m:=by unfold Lib.ctz;rw [if_neg (by omega)]
 rw [e]
 refine ⟨asc_uniqueN _ _ (bitsOf_asc _) ?_ ?_,a3,Nat.lt_of_le_of_lt Nat.and_le_left h⟩
 ·rw [List.pairwise_cons]
  refine ⟨fun c hc=>?_,bitsOf_asc _⟩
  obtain ⟨_,hc⟩:=bitsOf_mem.1 hc
  rw [a4] at hc
  simp only [ne_eq,Bool.and_eq_true,decide_eq_true_eq] at hc
  have:=a2 c
  have:=hc.2
  by_cases hlt:c < Lib.ctzFrom 64 m
  ·rw [a2 c hlt] at hc;cases hc.1
  ·omega
 ·intro c
  rw [List.mem_cons,bitsOf_mem,bitsOf_mem,a4]
  simp only [ne_eq,Bool.and_eq_true,decide_eq_true_eq]
  constructor
  ·rintro ⟨h1,h2⟩
   by_cases e:c=Lib.ctzFrom 64 m
   ·exact .inl e
   ·exact .inr ⟨h1,h2,e⟩
  ·rintro (rfl | ⟨h1,h2,_⟩)
   ·exact ⟨a3,a1⟩
   ·exact ⟨h1,h2⟩
theorem bitsOf_zero:bitsOf 0=[]:=by unfold bitsOf;simp
def wrdOf (fs:List (Nat × Nat)) (i m:Nat):Prop:=m < 2 ^ 64∧∀ c,m.testBit c=decide ((i,c)∈fs)
theorem wrdOf.nil (i:Nat):wrdOf [] i 0:=⟨by decide,fun c=>by simp⟩
theorem wrdOf.other {fs:List (Nat × Nat)} {i m r c:Nat} (h:wrdOf fs i m) (hr:r≠i):wrdOf (fs++[(r,c)]) i m:=by
 refine ⟨h.1,fun d=>?_⟩
 rw [h.2,decide_eq_decide,List.mem_append,List.mem_singleton]
 constructor
 ·exact .inl
 ·rintro (h | h)
  ·exact h
  ·simp only [Prod.mk.injEq] at h;exact absurd h.1.symm hr
theorem wrdOf.put {fs:List (Nat × Nat)} {i m c:Nat} (h:wrdOf fs i m) (hc:c < 64):wrdOf (fs++[(i,c)]) i (m ||| 2 ^ c):=by
 refine ⟨Nat.or_lt_two_pow h.1 (Nat.pow_lt_pow_right (by decide) hc),fun d=>?_⟩
 rw [Nat.testBit_or,h.2,Nat.testBit_two_pow]
 by_cases e:c=d
 ·subst e;simp
 ·have:(i,d)≠(i,c):=fun h=>e (by simp only [Prod.mk.injEq,true_and] at h;exact h.symm)
  simp [e,this]
def colsOf (fs:List (Nat × Nat)) (i:Nat):List Nat:=(List.range 64).filter (fun c=>decide ((i,c)∈fs))
theorem bits_cols {fs:List (Nat × Nat)} {i m:Nat} (h:wrdOf fs i m):bitsOf m=colsOf fs i:=by
 unfold bitsOf colsOf
 exact List.filter_congr (fun c _=>h.2 c)
theorem colsOf_mem {fs:List (Nat × Nat)} {i c:Nat}:c∈colsOf fs i↔c < 64∧(i,c)∈fs:=by unfold colsOf;rw [List.mem_filter,List.mem_range,decide_eq_true_iff]
theorem colsOf_asc (fs:List (Nat × Nat)) (i:Nat):(colsOf fs i).Pairwise (· < ·):=List.Pairwise.filter _ List.pairwise_lt_range
theorem colsOf_len (fs:List (Nat × Nat)) (i:Nat):(colsOf fs i).length≤64:=by
 have:=List.length_filter_le (fun c=>decide ((i,c)∈fs)) (List.range 64)
 unfold colsOf
 simpa using this
theorem word_has {fs:List (Nat × Nat)} {i m c:Nat} (h:wrdOf fs i m):(bits .and .u64 ((m:Int) / 2 ^ c) 1 == 1)=decide ((i,c)∈fs):=by
 have e:(m:Int) / 2 ^ c=((m / 2 ^ c:Nat):Int):=by rw [Int.natCast_ediv,Int.natCast_pow];rfl
 have hb:m / 2 ^ c < 2 ^ 64:=Nat.lt_of_le_of_lt (Nat.div_le_self _ _) h.1
 rw [e,← h.2 c,Nat.testBit_eq_decide_div_mod_eq]
 generalize m / 2 ^ c=q at *
 rw [and_one_u64 _ (by omega) (by omega)]
 by_cases h1:q % 2=1
 ·rw [decide_eq_true h1,beq_iff_eq];omega
 ·rw [decide_eq_false h1,beq_eq_false_iff_ne];omega
end
section
open Go.RowKit Go.Shelf

structure Kp (X:Nat→Prop) (w w':World):Prop where
 os:w'.os=w.os
 tape:w'.tape=w.tape
 output:w'.output=w.output
 size:w.heap.size≤w'.heap.size
 block:∀ k,k < w.heap.size→¬ X k→w'.heap[k]? = w.heap[k]?
section
variable {X Y:Nat→Prop} {w w1 w2:World}
theorem Kp.refl (X:Nat→Prop) (w:World):Kp X w w:=⟨rfl,rfl,rfl,Nat.le_refl _,fun _ _ _=>rfl⟩
theorem Kp.of_below (h:Below w.heap.size w w1):Kp X w w1:=⟨h.os,h.tape,h.output,h.size,fun k hk _=>h.block k hk⟩
theorem Kp.of_grown {r:Option Nat} (h:w.grownBy w1 r) (hr:∀ b,some b=r→X b):Kp X w w1:=⟨h.os,h.tape,h.output,h.size,fun k hk hx=>h.block k hk (fun e=>hx (hr k e))⟩
theorem Kp.trans (h:Kp X w w1) (g:Kp Y w1 w2) (hxy:∀ b,b < w.heap.size→Y b→X b):Kp X w w2 :=
 ⟨g.os.trans h.os,g.tape.trans h.tape,g.output.trans h.output,Nat.le_trans h.size g.size,fun k hk hx=>(g.block k (Nat.lt_of_lt_of_le hk h.size) (fun hy=>hx (hxy k hk hy))).trans (h.block k hk hx)⟩
theorem Kp.below {n:Nat} (h:Kp X w w1) (hn:n≤w.heap.size) (hx:∀ b,b < n→¬ X b):Below n w w1:=⟨h.os,h.tape,h.output,h.size,fun k hk=>h.block k (Nat.lt_of_lt_of_le hk hn) (hx k hk)⟩
theorem Kp.blk {b:Nat} {cs:Array Value} (h:Kp X w w1) (hb:Blk w b cs) (hx:¬ X b):Blk w1 b cs:=by
 have e:=h.block b hb.2.2 hx
 exact ⟨fun o=>(World.cell?_of_block (a:=⟨b,o,none⟩) e).trans (hb.1 o),fun o=>(World.frozen?_of_block (a:=⟨b,o,none⟩) e).trans (hb.2.1 o),Nat.lt_of_lt_of_le hb.2.2 h.size⟩
theorem Kp.own {base size n:Nat} {e:TypeId} {v:Value} {xs:List Value} (h:Kp X w w1) (ho:w.ownsRow base e size v n xs) (hx:∀ g,v.ownBlock=some g→¬ X g):w1.ownsRow base e size v n xs:=by
 refine ⟨ho.1,?_⟩
 rcases ho.2 with h2 | ⟨g,cap,cur,rfl,hb,hg,hr⟩
 ·exact .inl h2
 ·exact .inr ⟨g,cap,cur,rfl,hb,(h.block g (Array.getElem?_eq_some_iff.1 hg).1 (hx g rfl)).trans hg,hr⟩
theorem Kp.set {b o:Nat} {v:Value} (hx:X b):Kp X w (w.setCell ⟨b,o,none⟩ v) :=
 ⟨rfl,rfl,rfl,by simp [World.setCell],fun k _ hk=>Below.heap_setCell _ _ _ _ (fun e=>hk (by have e':k=b:=e;rw [e'];exact hx))⟩
theorem Kp.sub (h:Kp X w w1) (hxy:∀ b,b < w.heap.size→X b→Y b):Kp Y w w1:=⟨h.os,h.tape,h.output,h.size,fun k hk hy=>h.block k hk (fun hx=>hy (hxy k hk hx))⟩
theorem Kp.drew (h:Kp X w w1):Kp X w w1.drew:=⟨h.os,h.tape,h.output,h.size,h.block⟩
end
def arrOf (n:Nat) (f:Nat→Value):Array Value:=((List.range n).map f).toArray
theorem arrOf_get (n:Nat) (f:Nat→Value) (i:Nat):(arrOf n f)[i]? = if i < n then some (f i) else none:=by
 unfold arrOf
 rw [List.getElem?_toArray,List.getElem?_map]
 by_cases h:i < n
 ·rw [if_pos h,List.getElem?_eq_getElem (by simpa using h)];simp
 ·rw [if_neg h,List.getElem?_eq_none (by simpa using h)];rfl
theorem arrOf_size (n:Nat) (f:Nat→Value):(arrOf n f).size=n:=by unfold arrOf;simp
theorem arrOf_set (n:Nat) (f:Nat→Value) (i:Nat) (v:Value) (hi:i < n):(arrOf n f).setIfInBounds i v=arrOf n (fun j=>if j=i then v else f j):=by
 apply Array.ext_getElem?
 intro j
 rw [Array.getElem?_setIfInBounds,arrOf_get,arrOf_get,arrOf_size]
 by_cases h:i=j
 ·subst h;rw [if_pos rfl,if_pos hi,if_pos hi,if_pos rfl]
 ·rw [if_neg h]
  by_cases hj:j < n
  ·rw [if_pos hj,if_pos hj,if_neg (fun e=>h e.symm)]
  ·rw [if_neg hj,if_neg hj]
theorem arrOf_congr {n:Nat} {f g:Nat→Value} (h:∀ i,i < n→f i=g i):arrOf n f=arrOf n g:=by
 apply Array.ext_getElem?
 intro j
 rw [arrOf_get,arrOf_get]
 by_cases hj:j < n
 ·rw [if_pos hj,if_pos hj,h j hj]
 ·rw [if_neg hj,if_neg hj]

structure FamAt (w:World) (F W0 g0 rows cols:Nat) (fs:List (Nat × Nat)):Prop where
 ff:Blk w F #[.int .i64 rows,.int .i64 cols,.slice (some ⟨W0,0,none⟩) rows rows,.int .i64 fs.length]
 ww:Blk w W0 (arrOf rows (fun i=>.slice (some ⟨g0+i,0,none⟩) 1 1))
 gg:∀ i,i < rows→∃ m:Nat,Blk w (g0+i) #[.int .u64 m]∧wrdOf fs i m
 o1:F < W0
 o2:W0 < g0
 c64:cols≤64
 r64:rows≤4096
 rng:∀ f∈fs,f.1 < rows∧f.2 < cols
 nodup:fs.Nodup
def famX (F g0 rows:Nat) (b:Nat):Prop:=b=F∨(g0≤b∧b < g0+rows)
theorem FamAt.kp {X:Nat→Prop} {w w':World} {F W0 g0 rows cols:Nat} {fs:List (Nat × Nat)} (h:FamAt w F W0 g0 rows cols fs) (k:Kp X w w') (h1:¬ X F) (h2:¬ X W0) (h3:∀ i,i < rows→¬ X (g0+i)):FamAt w' F W0 g0 rows cols fs :=
 ⟨k.blk h.ff h1,k.blk h.ww h2,fun i hi=>by obtain ⟨m,hm,ho⟩:=h.gg i hi;exact ⟨m,k.blk hm (h3 i hi),ho⟩,h.o1,h.o2,h.c64,h.r64,h.rng,h.nodup⟩
theorem FamAt.below {w w':World} {F W0 g0 rows cols:Nat} {fs:List (Nat × Nat)} (h:FamAt w F W0 g0 rows cols fs) (hb:Below w.heap.size w w'):FamAt w' F W0 g0 rows cols fs :=
 h.kp (Kp.of_below (X:=fun _=>False) hb) id id (fun _ _=>id)
theorem fam_len {w:World} {F W0 g0 rows cols:Nat} {fs:List (Nat × Nat)} (h:FamAt w F W0 g0 rows cols fs):fs.length≤rows * cols:=by
 have h1:=nodup_le fs ((List.range rows).flatMap (fun i=>(List.range cols).map (fun c=>(i,c)))) h.nodup (fun f hf=>by
  obtain ⟨a,b⟩:=h.rng f hf
  rw [List.mem_flatMap]
  exact ⟨f.1,List.mem_range.2 a,List.mem_map.2 ⟨f.2,List.mem_range.2 b,rfl⟩⟩)
 have h2:∀ l:List Nat,(l.flatMap (fun i=>(List.range cols).map (fun c=>(i,c)))).length=l.length * cols:=by
  intro l
  induction l with
  | nil=>simp
  | cons a r ih=>rw [List.flatMap_cons,List.length_append,ih,List.length_map,List.length_range,List.length_cons,Nat.succ_mul,Nat.add_comm]
 rw [h2,List.length_range] at h1
 exact h1
end
section
open Go.RowKit Go.Shelf

section
variable {P:Program} {ops:Array Oper} {Q:Exit→Act→World→Prop} {md:Region.Mode} {S:World→Prop} {last:Nat}

def underB (md:Region.Mode) (ops:Array Oper):Nat→Nat→Nat→Bool
 | 0,_,_=>false
 | f+1,j,i=>match ops[j]? with
  | none=>false
  | some o=>o.after.any fun e=>Region.binds md e && (e.on == i || underB md ops f e.on i)
def ClosedL (md:Region.Mode) (ops:Array Oper) (listed:Array Bool):Prop :=
 ∀ j o,ops[j]? = some o→listed.getD j false=true→∀ e∈o.after,Region.binds md e=true→listed.getD e.on false=true
def closedB (md:Region.Mode) (ops:Array Oper) (listed:Array Bool):Bool :=
 (List.range ops.size).all fun j => !listed.getD j false || match ops[j]? with
  | some o=>o.after.all fun e => !Region.binds md e || listed.getD e.on false
  | none=>true
theorem closedB_spec {listed:Array Bool} (h:closedB md ops listed=true):ClosedL md ops listed:=by
 intro j o ho hl e he hb
 have h1:=List.all_eq_true.1 h j (List.mem_range.2 (Array.getElem?_eq_some_iff.1 ho).1)
 rw [hl,ho] at h1
 simp only [Bool.not_true,Bool.false_or] at h1
 have h2:=Array.all_eq_true_iff_forall_mem.1 h1 e he
 rw [hb] at h2
 simpa using h2
theorem under_listed {listed:Array Bool} (hc:ClosedL md ops listed):∀ (f j i:Nat),underB md ops f j i=true →
  (∀ o,ops[j]? = some o→∀ e∈o.after,Region.binds md e=true→listed.getD e.on false=true)→listed.getD i false=true
 | 0,_,_,h,_=>by cases h
 | f+1,j,i,h,hl=>by
  unfold underB at h
  cases ho:ops[j]? with
  | none=>rw [ho] at h;cases h
  | some o =>
   rw [ho] at h
   obtain ⟨e,he,hb⟩:=Array.any_eq_true'.1 h
   rw [Bool.and_eq_true,Bool.or_eq_true] at hb
   have h2:=hl o ho e he hb.1
   rcases hb.2 with h1 | h1
   ·rw [← (beq_iff_eq.1 h1)];exact h2
   ·exact under_listed hc f e.on i h1 (fun o' ho' e' he' hb'=>hc _ o' ho' h2 e' he' hb')
theorem closed_set {listed:Array Bool} {j:Nat} (hc:ClosedL md ops listed) (hj:j∈Region.ready md ops listed):ClosedL md ops (listed.setIfInBounds j true):=by
 intro k o ho hl e he hb
 by_cases hk:k=j
 ·subst hk
  obtain ⟨_,o',ho',hall⟩:=mem_ready.1 hj
  rw [ho] at ho';cases ho'
  exact getD_set_true (hall e he hb)
 ·rw [getD_set_ne false (Ne.symm hk)] at hl
  exact getD_set_true (hc k o ho hl e he hb)

def wpAnyL (P:Program) (md:Region.Mode) (ops:Array Oper) (Q:Exit→Act→World→Prop) (S:World→Prop) (last:Nat):Nat→Array Bool→Act→World→Prop
 | 0,listed,a,w=>Region.ready md ops listed=[]∧Q .normal a w
 | fuel+1,listed,a,w =>
  (Region.ready md ops listed=[]→Q .normal a w) ∧
  ∀ i∈Region.ready md ops listed,wpOp P ops Q i (fun a' w'=>(i=last∨S w')∧wpAnyL P md ops Q S last fuel (listed.setIfInBounds i true) a' w') a w
theorem wpAny_of_l:∀ (fuel:Nat) (listed:Array Bool) (a:Act) (w:World),wpAnyL P md ops Q S last fuel listed a w→wpAny P md ops Q fuel listed a w
 | 0,_,_,_,h=>h
 | fuel+1,_,_,_,h=>⟨h.1,fun i hi=>wpOp_mono (fun a' w' h'=>wpAny_of_l fuel _ a' w' h'.2) (h.2 i hi)⟩
theorem wpAnyL_first {i:Nat} {oi:Oper} {v:Value} (hi:ops[i]? = some oi) (hsel:∀ (j:Nat) (o:Oper) cs b,ops[j]? = some o→o.op≠.select cs b)
  (hQ:∀ c a w,Q (.panic c) (a.put oi.dst v) w→Q (.panic c) a w) (f:Nat) (hu:underB md ops f last i=true) :
  ∀ (fuel:Nat) (listed:Array Bool) (a:Act) (w:World),ClosedL md ops listed →
   (∀ j oj,ops[j]? = some oj→j≠i→listed.getD j true=false→(∀ e∈oj.after,Region.binds md e=true→e.on≠i)→oi.apart ops oj=true) →
   i∈Region.ready md ops listed→YieldsIf P ops S oi v a→S w →
   wpAnyL P md ops Q S last fuel (listed.setIfInBounds i true) (a.put oi.dst v) w→wpAnyL P md ops Q S last (fuel+1) listed a w:=by
 intro fuel
 induction fuel with
 | zero =>
  intro listed a w _ _ hr hy hS H
  refine ⟨fun h=>(by rw [h] at hr;cases hr),fun j hj=>?_⟩
  by_cases hji:j=i
  ·subst hji;exact hy.wpOp hi hS ⟨.inr hS,H⟩
  ·have:=ready_mono hj hji
   rw [H.1] at this
   cases this
 | succ fuel ih =>
  intro listed a w hc hfree hr hy hS H
  refine ⟨fun h=>(by rw [h] at hr;cases hr),fun j hj=>?_⟩
  by_cases hji:j=i
  ·subst hji;exact hy.wpOp hi hS ⟨.inr hS,H⟩
  ·have h1:=H.2 j (ready_mono hj hji)
   obtain ⟨hjun,oj,hoj,hall⟩:=mem_ready.1 hj
   have hiun:=(mem_ready.1 hr).1
   have noti:listed.getD i false=true→False:=fun h1=>by
    rcases Nat.lt_or_ge i listed.size with h' | h'
    ·simp [h'] at hiun h1;rw [hiun] at h1;cases h1
    ·simp [Array.getElem?_eq_none h'] at h1
   have hnot:∀ e∈oj.after,Region.binds md e=true→e.on≠i:=fun e he hb heq=>noti (heq ▸ hall e he hb)
   have hlast:j≠last:=fun e=>by
    subst e
    exact noti (under_listed hc _ _ _ hu (fun o ho e he hb=>by rw [hoj] at ho;cases ho;exact hall e he hb))
   have h2:=wpOp_putIf hoj (hfree j oj hoj hji hjun hnot) (fun cs b=>hsel i oi cs b hi) (fun cs b=>hsel j oj cs b hoj) hQ hy h1
   have hfree':∀ k ok,ops[k]? = some ok→k≠i→(listed.setIfInBounds j true).getD k true=false →
     (∀ e∈ok.after,Region.binds md e=true→e.on≠i)→oi.apart ops ok=true:=fun k ok hk hki hun hno=>by
    refine hfree k ok hk hki ?_ hno
    by_cases hjk:j=k
    ·subst hjk;exact hjun
    ·rw [getD_set_ne true hjk] at hun;exact hun
   refine wpOp_mono (fun a' w' h3=>⟨h3.2.1,ih (listed.setIfInBounds j true) a' w' (closed_set hc hj) hfree' (ready_mono hr (Ne.symm hji)) h3.1 (h3.2.1.resolve_left hlast) ?_⟩) h2
   rw [Array.setIfInBounds_comm _ _ hji]
   exact h3.2.2
theorem wpAnyL_done {listed:Array Bool} {a:Act} {w:World} (hr:Region.ready md ops listed=[]) (h:Q .normal a w) :
  ∀ fuel,wpAnyL P md ops Q S last fuel listed a w
 | 0=>⟨hr,h⟩
 | _+1=>⟨fun _=>h,by rw [hr];simp⟩
end

theorem wp_region_last {P:Program} {Q:Exit→Act→World→Prop} {S:World→Prop} {l:List Oper} {id:Nat} {a:Act} {w:World} (last:Nat) (hm:P.follows .mixedOrders=true) (hS:S w.drew)
  (h:S w.drew→wpAnyL P .any l.toArray Q S last l.toArray.size (Array.replicate l.toArray.size false) a w.drew):(Code.region id l.toArray true).wp P Q a w :=
 wp_region_any hm (wpAny_of_l _ _ _ _ (h hS))
theorem last_yes {P:Program} {md:Region.Mode} {S:World→Prop} {Q:Exit→Act→World→Prop} {fuel last:Nat} {listed:Array Bool} {a:Act} {w:World} {v:Value} {oi:Oper} {l:List Oper} (i:Nat) (hi:nthOp l i=some oi)
  (hs:Region.noSelect l.toArray=true) (hf:Region.free md l.toArray listed i=true) (hr:(Region.ready md l.toArray listed).contains i=true) (hu:underB md l.toArray l.length last i=true) (hc:closedB md l.toArray listed=true)
  (hQ:∀ c a w,Q (.panic c) (a.put oi.dst v) w→Q (.panic c) a w) (hw:Region.wanted oi (yielded l.toArray a.tmps)=true) (hS:S w) (hy:∀ w,S w→(execOp a.eval oi).run P w=.ok (.value v) w)
  (h:wpAnyL P md l.toArray Q S last fuel (listed.setIfInBounds i true) (a.put oi.dst v) w):wpAnyL P md l.toArray Q S last (fuel+1) listed a w:=by
 have hi':l.toArray[i]? = some oi:=by rw [nthOp_get];exact hi
 exact wpAnyL_first hi' (Region.noSelect_spec hs) hQ _ hu fuel listed a w (closedB_spec hc) (Region.free_spec hi' hf) (by simpa using hr) (Or.inl ⟨hw,hy⟩) hS h
theorem last_call {P:Program} {md:Region.Mode} {S:World→Prop} {Q:Exit→Act→World→Prop} {fuel last:Nat} {listed:Array Bool} {a:Act} {w:World} {oi:Oper} {l:List Oper} (i:Nat) (hi:nthOp l i=some oi)
  (hr:Region.ready md l.toArray listed=[i])
  (h:∀ K':Act→World→Prop,Shut (∀ a w,S w→(S w→wpAnyL P md l.toArray Q S last fuel (listed.setIfInBounds i true) a w)→K' a w)→if Region.wanted oi (yielded l.toArray a.tmps)=true then Oper.wp P oi a w K' Q else K' (a.put oi.dst undef) w) :
  wpAnyL P md l.toArray Q S last (fuel+1) listed a w:=by
 refine ⟨fun h0=>(by rw [hr] at h0;cases h0),?_⟩
 rw [hr]
 intro j hj
 rw [List.mem_singleton] at hj
 subst hj
 exact wpOp_step (by rw [nthOp_get];exact hi) (fun K' hK=>h K' (fun a w hS hW=>hK a w ⟨.inr hS,hW hS⟩))
theorem last_end {P:Program} {md:Region.Mode} {S:World→Prop} {Q:Exit→Act→World→Prop} {fuel:Nat} {listed:Array Bool} {a:Act} {w:World} {oi:Oper} {l:List Oper} (i:Nat) (hi:nthOp l i=some oi)
  (hr:Region.ready md l.toArray listed=[i]) (hd:Region.ready md l.toArray (listed.setIfInBounds i true)=[])
  (h:∀ K':Act→World→Prop,Shut (∀ a w,Q .normal a w→K' a w)→if Region.wanted oi (yielded l.toArray a.tmps)=true then Oper.wp P oi a w K' Q else K' (a.put oi.dst undef) w) :
  wpAnyL P md l.toArray Q S i (fuel+1) listed a w:=by
 refine ⟨fun h0=>(by rw [hr] at h0;cases h0),?_⟩
 rw [hr]
 intro j hj
 rw [List.mem_singleton] at hj
 subst hj
 exact wpOp_step (by rw [nthOp_get];exact hi) (fun K' hK=>h K' (fun a w hQ=>hK a w ⟨.inl rfl,wpAnyL_done hd hQ _⟩))
theorem lyes {P:Program} {md:Region.Mode} {S:World→Prop} {Q:Exit→Act→World→Prop} {fuel last:Nat} {listed:Array Bool} {a a':Act} {w:World} {v:Value} {oi:Oper} {l:List Oper} (i:Nat)
  (h:wpAnyL P md l.toArray Q S last fuel (listed.setIfInBounds i true) a' w) (hi:nthOp l i=some oi:=by rfl) (hy:∀ w,S w→(execOp a.eval oi).run P w=.ok (.value v) w:=by (intro w hSw;(try dsimp only at hSw);go_simp;(try with_reducible rfl)))
  (ha:a.put oi.dst v=a':=by (simp only [Act.put,List.setIfInBounds_toArray,List.set];exact rfl)) (hs:Region.noSelect l.toArray=true:=by kernel_rfl) (hf:Region.free md l.toArray listed i=true:=by kernel_rfl) (hr:(Region.ready md l.toArray listed).contains i=true:=by kernel_rfl) (hu:underB md l.toArray l.length last i=true:=by kernel_rfl) (hc:closedB md l.toArray listed=true:=by kernel_rfl)
  (hQ:∀ c a w,Q (.panic c) (a.put oi.dst v) w→Q (.panic c) a w:=by exact fun _ _ _ h=>h) (hw:Region.wanted oi (yielded l.toArray a.tmps)=true:=by rfl) (hS:S w:=by assumption):wpAnyL P md l.toArray Q S last (fuel+1) listed a w:=by
 subst ha
 exact last_yes i hi hs hf hr hu hc hQ hw hS hy h
end
section
open Go.RowKit Go.Shelf

section
variable {w:World} {F W0 g0 rows cols:Nat} {fs:List (Nat × Nat)}
theorem fam_Rows (h:FamAt w F W0 g0 rows cols fs):Calls Tryz.prog 281 #[.pointer (some ⟨F,0,none⟩)] w fun e w'=>e=.returned (.int .i64 rows)∧w'=w:=by
 obtain ⟨ca,fa,za⟩:=h.ff
 clear h
 go_enter Tryz.func281,Tryz.ntmps281
 go_wp2
 go_ret
 exact ⟨rfl,rfl⟩
theorem fam_row (h:FamAt w F W0 g0 rows cols fs) (i:Nat) (hi:i < rows):Calls Tryz.prog 236 #[.pointer (some ⟨F,0,none⟩),.int .i64 i] w fun e w'=>e=.returned (.slice (some ⟨g0+i,0,none⟩) 1 1)∧w'=w:=by
 have R:=Lib.hid (fam_Rows h)
 have h64:=h.r64
 obtain ⟨ca,fa,za⟩:=h.ff
 obtain ⟨cw,fw,zw⟩:=h.ww
 have cwi:=cw i
 rw [arrOf_get,if_pos hi] at cwi
 clear h cw fw
 go_enter Tryz.func236,Tryz.ntmps236
 go_wp2_with fail
 refine R.out.mono ?_
 rintro e w1 ⟨rfl,rfl⟩
 go_wp2
 go_ret
 exact ⟨rfl,rfl⟩
theorem fam_rowNo (h:FamAt w F W0 g0 rows cols fs) (i:Int) (hi:¬ (0≤i∧i < rows)):Calls Tryz.prog 236 #[.pointer (some ⟨F,0,none⟩),.int .i64 i] w fun e w'=>e=.returned (.slice none 0 0)∧w'=w:=by
 have R:=Lib.hid (fam_Rows h)
 obtain ⟨ca,fa,za⟩:=h.ff
 clear h
 by_cases h0:i < 0
 ·have d:decide (i < 0)=true:=decide_eq_true h0
  clear h0 hi
  go_enter Tryz.func236,Tryz.ntmps236
  go_wp2
  go_ret
  exact ⟨rfl,rfl⟩
 ·have d:decide (i < 0)=false:=decide_eq_false h0
  have d2:decide ((rows:Int)≤i)=true:=decide_eq_true (by omega)
  clear h0 hi
  go_enter Tryz.func236,Tryz.ntmps236
  go_wp2_with fail
  refine R.out.mono ?_
  rintro e w1 ⟨rfl,rfl⟩
  go_wp2
  go_ret
  exact ⟨rfl,rfl⟩
def hasF (fs:List (Nat × Nat)) (r c:Int):Bool:=decide (0≤r∧0≤c∧(r.toNat,c.toNat)∈fs)
theorem hasF_nat (fs:List (Nat × Nat)) (r c:Nat):hasF fs r c=decide ((r,c)∈fs):=by
 unfold hasF
 rw [decide_eq_decide]
 exact ⟨fun h=>h.2.2,fun h=>⟨by omega,by omega,h⟩⟩
theorem hasF_no (h:FamAt w F W0 g0 rows cols fs) {r c:Int} (hn:¬ (0≤r∧r < rows)∨¬ (0≤c∧c < cols)):hasF fs r c=false:=by
 unfold hasF
 rw [decide_eq_false_iff_not]
 rintro ⟨h1,h2,h3⟩
 have:=h.rng _ h3
 dsimp only at this
 omega
set_option maxRecDepth 100000 in
set_option maxHeartbeats 2000000 in
theorem fam_Has (h:FamAt w F W0 g0 rows cols fs) (r c:Int):Calls Tryz.prog 201 #[.pointer (some ⟨F,0,none⟩),.int .i64 r,.int .i64 c] w fun e w'=>e=.returned (.bool (hasF fs r c))∧w'=w:=by
 have HN:=Lib.hid (fun (hn:¬ (0≤r∧r < rows)∨¬ (0≤c∧c < cols))=>hasF_no h hn)
 by_cases hr:0≤r∧r < rows
 ·obtain ⟨i,rfl⟩:=Int.eq_ofNat_of_zero_le hr.1
  have hi:i < rows:=by omega
  have R:=Lib.hid (fam_row h i hi)
  obtain ⟨m,⟨cm,fm,zm⟩,hw⟩:=h.gg i hi
  have c64:=h.c64
  obtain ⟨ca,fa,za⟩:=h.ff
  clear h fm fa hr
  by_cases hc:0≤c∧c < cols
  ·obtain ⟨j,rfl⟩:=Int.eq_ofNat_of_zero_le hc.1
   have hj:j < cols:=by omega
   have hb:=word_has (c:=j) hw
   have RES:=Lib.hid (hasF_nat fs i j)
   rw [← hb] at RES
   generalize hasF fs (i:Int) (j:Int)=res at RES ⊢
   have e0:j / 64=0:=Nat.div_eq_of_lt (by omega)
   have e2:(j:Int) % 64=(j:Int):=by omega
   have e3:(j:Int).tmod 64=(j:Int):=by rw [Int.tmod_eq_emod_of_nonneg (by omega)];exact e2
   clear hw hb hc
   go_enter Tryz.func201,Tryz.ntmps201
   go_wp2_with fail
   refine R.out.mono ?_
   rintro e w1 ⟨rfl,rfl⟩
   go_wp2
   go_ret
   exact ⟨ret_b (by rw [RES.out]),rfl⟩
  ·have RES:=Lib.hid (HN.out (.inr hc))
   generalize hasF fs (i:Int) c=res at RES ⊢
   clear hw HN
   by_cases h0:0≤c
   ·have d:decide (0≤c)=true:=decide_eq_true h0
    have d2:decide (c < (cols:Int))=false:=decide_eq_false (by omega)
    clear h0 hc
    go_enter Tryz.func201,Tryz.ntmps201
    go_wp2_with fail
    refine R.out.mono ?_
    rintro e w1 ⟨rfl,rfl⟩
    go_wp2
    go_ret
    exact ⟨ret_b (by rw [RES.out]),rfl⟩
   ·have d:decide (0≤c)=false:=decide_eq_false h0
    clear h0 hc
    go_enter Tryz.func201,Tryz.ntmps201
    go_wp2_with fail
    refine R.out.mono ?_
    rintro e w1 ⟨rfl,rfl⟩
    go_wp2
    go_ret
    exact ⟨ret_b (by rw [RES.out]),rfl⟩
 ·have R:=Lib.hid (fam_rowNo h r hr)
  have RES:=Lib.hid (HN.out (.inl hr))
  generalize hasF fs r c=res at RES ⊢
  clear HN h hr
  go_enter Tryz.func201,Tryz.ntmps201
  go_wp2_with fail
  refine R.out.mono ?_
  rintro e w1 ⟨rfl,rfl⟩
  go_wp2
  go_ret
  exact ⟨ret_b (by rw [RES.out]),rfl⟩
theorem eql_nil (b:Addr) (n c:Nat) (W:World):(binOp .eql 256 (.slice (some b) n c) (.slice none 0 0)).run Tryz.prog W=.ok (.bool false) W:=by
 exact Go.Lib.run_eql_slice_nil W _ _ _ _ _ _ _ Tryz.underlying256
def addF (fs:List (Nat × Nat)) (r c:Nat):List (Nat × Nat):=if (r,c)∈fs then fs else fs++[(r,c)]
set_option maxRecDepth 100000 in
set_option maxHeartbeats 4000000 in
theorem fam_Add (h:FamAt w F W0 g0 rows cols fs) (r c:Nat) (hr:r < rows) (hc:c < cols):Calls Tryz.prog 329 #[.pointer (some ⟨F,0,none⟩),.int .i64 r,.int .i64 c] w fun e w' =>
  e=.returned (.bool (!decide ((r,c)∈fs)))∧FamAt w' F W0 g0 rows cols (addF fs r c)∧Kp (famX F g0 rows) w w':=by
 have HS:=fam_Has h r c
 rw [hasF_nat] at HS
 have HS:=Lib.hid HS
 have R:=Lib.hid (fam_row h r hr)
 have HF:=Lib.hid h
 have hEN:=fun W=>eql_nil ⟨g0+r,0,none⟩ 1 1 W
 have c64:=h.c64
 have d1:decide ((c:Int) < 0)=false:=decide_eq_false (by omega)
 have d2:decide ((cols:Int)≤(c:Int))=false:=decide_eq_false (by omega)
 obtain ⟨ca,fa,za⟩:=h.ff
 by_cases hf:(r,c)∈fs
 ·have RES:=Lib.hid (show addF fs r c=fs from if_pos hf)
  rw [decide_eq_true hf] at HS ⊢
  clear h hf
  go_enter Tryz.func329,Tryz.ntmps329
  go_wp2_with fail
  refine R.out.mono ?_
  rintro e w1 ⟨rfl,rfl⟩
  go_wp2_with fail
  refine HS.out.mono ?_
  rintro e w1 ⟨rfl,rfl⟩
  go_wp2
  go_ret
  exact ⟨rfl,by rw [RES.out];exact HF.out,Kp.refl _ _⟩
 ·have RES:=Lib.hid (show addF fs r c=fs++[(r,c)] from if_neg hf)
  have HNF:=Lib.hid hf
  rw [decide_eq_false hf] at HS ⊢
  obtain ⟨m,hm,hw⟩:=h.gg r hr
  have HW:=Lib.hid hw
  have HM:=Lib.hid hm
  have hlen:=fam_len h
  have hlen2:rows * cols≤4096 * 64:=Nat.mul_le_mul h.r64 h.c64
  obtain ⟨cm,fm,zm⟩:=hm
  have e0:c / 64=0:=Nat.div_eq_of_lt (by omega)
  have e2:(c:Int) % 64=(c:Int):=by omega
  clear h hf hw
  go_enter Tryz.func329,Tryz.ntmps329
  go_wp2_with fail
  refine R.out.mono ?_
  rintro e w1 ⟨rfl,rfl⟩
  go_wp2_with fail
  refine HS.out.mono ?_
  rintro e w1 ⟨rfl,rfl⟩
  go_wp2_with fail
  have HFd:=Lib.hid (HF.out.below (below_drew (Below.refl _ _)))
  refine wp_region_last (S:=(fun W => ∀ o,W.cell? ⟨g0+r,o,none⟩=(#[.int .u64 m]:Array Value)[o]?)) 10 (by kernel_rfl) (by intro o;rw [World.cell?_drew];exact cm o) (fun hHeld=>?_)
  have HM:=Lib.hid (HM.out.below (below_drew (Below.refl _ _)))
  obtain ⟨wk,hwk⟩:∃ W,W=w1.drew:=⟨_,rfl⟩
  rw [← hwk] at HM HFd hHeld ⊢
  have HKP:=Lib.hid (show Kp (famX F g0 rows) w1 wk by rw [hwk];exact (Kp.refl _ _).drew)
  have ew:IntKind.i64.wrap ((c:Int) / 64)=0:=by rw [show (c:Int) / 64=0 by omega];rfl
  have er:IntKind.i64.wrap ((c:Int) % 64)=(c:Int):=by rw [e2];exact Go.IntWalk.i64_in _ (by omega)
  have hcz:(c:Int)≤64:=by omega
  have hcz0:(0:Int)≤(c:Int):=by omega
  have et:(c:Int).tmod 64=(c:Int):=by rw [Int.tmod_eq_emod_of_nonneg (by omega)];exact e2
  have HOR:=Lib.hid (show bits .or .u64 (m:Int) (IntKind.u64.wrap (2 ^ c))=((m ||| 2 ^ c:Nat):Int) by
   have hp:2 ^ c < 2 ^ 64:=Nat.pow_lt_pow_right (by decide) (by omega)
   have e:IntKind.u64.wrap (2 ^ c)=((2 ^ c:Nat):Int):=by
    rw [show ((2:Int) ^ c)=((2 ^ c:Nat):Int) by rw [Int.natCast_pow];rfl]
    generalize 2 ^ c=q at *
    exact Go.IntWalk.u64_in _ (by omega)
   rw [e]
   exact bits_or_u64_nat _ _ HW.out.1 hp)
  clear hwk
  (refine lyes 0 ?_);(refine lyes 1 ?_);(refine lyes 2 ?_);(refine lyes 3 ?_);(refine lyes 4 ?_);(refine lyes 5 ?_);(refine lyes 6 ?_);(refine lyes 7 ?_);(refine lyes 8 ?_);(refine lyes 9 ?_);(try simp only [Act.put,List.setIfInBounds_toArray,List.set])
  obtain ⟨cm2,fm2,zm2⟩:=HM.out
  (refine last_end 10 rfl (by kernel_rfl) (by kernel_rfl) (fun K hK=>?_);go_simp)
  rw [HOR.out]
  clear cm2 fm2 zm2
  refine hK.out _ _ ?_
  clear hK K
  have hwp:=HW.out.put (c:=c) (by omega)
  generalize hW1:wk.setCell ⟨g0+r,0,none⟩ (.int .u64 ((m ||| 2 ^ c:Nat):Int))=wv
  have HKP:=Lib.hid (HKP.out.trans (show Kp (famX F g0 rows) wk wv by rw [← hW1];exact Kp.set (.inr ⟨by omega,by omega⟩)) (fun _ _ h=>h))
  have HM2:=Lib.hid (show Blk wv (g0+r) #[.int .u64 ((m ||| 2 ^ c:Nat):Int)] by rw [← hW1];simpa using HM.out.put (o:=0) (v:=.int .u64 ((m ||| 2 ^ c:Nat):Int)) (by simp))
  have o1:=HF.out.o1
  have o2:=HF.out.o2
  have HFF:=Lib.hid (show Blk wv F #[.int .i64 rows,.int .i64 cols,.slice (some ⟨W0,0,none⟩) rows rows,.int .i64 fs.length] by rw [← hW1];exact HFd.out.ff.far (by omega))
  have HWW:=Lib.hid (show Blk wv W0 (arrOf rows (fun i=>.slice (some ⟨g0+i,0,none⟩) 1 1)) by rw [← hW1];exact HFd.out.ww.far (by omega))
  have HGG:=Lib.hid (show ∀ i,i < rows→∃ m:Nat,Blk wv (g0+i) #[.int .u64 m]∧wrdOf (fs++[(r,c)]) i m from fun i hi=>by
   by_cases e:r=i
   ·subst e;exact ⟨_,HM2.out,hwp⟩
   ·obtain ⟨m',hm',hw'⟩:=HFd.out.gg i hi
    exact ⟨m',by rw [← hW1];exact hm'.far (by omega),hw'.other e⟩)
  clear hwp hW1 HFd HM HOR HW ew er et hcz hcz0 e0 e2 HM2
  have ca2:=HFF.out.1
  go_wp2_with fail
  refine wp_region_last (S:=(fun W => ∀ o,W.cell? ⟨F,o,none⟩=(#[.int .i64 rows,.int .i64 cols,.slice (some ⟨W0,0,none⟩) rows rows,.int .i64 fs.length]:Array Value)[o]?)) 9 (by kernel_rfl) (by intro o;rw [World.cell?_drew];exact ca2 o) (fun hHeld=>?_)
  have hwl:IntKind.i64.wrap ((fs.length:Int)+1)=(fs.length:Int)+1:=Go.IntWalk.i64_in _ (by omega)
  (refine lyes 0 ?_);(refine lyes 1 ?_);(refine lyes 2 ?_);(refine lyes 3 ?_);(refine lyes 4 ?_);(refine lyes 5 ?_);(refine lyes 6 ?_);(refine lyes 7 ?_);(refine lyes 8 ?_);(try simp only [Act.put,List.setIfInBounds_toArray,List.set])
  obtain ⟨cm2,fm2,zm2⟩:=HFF.out
  (refine last_end 9 rfl (by kernel_rfl) (by kernel_rfl) (fun K hK=>?_);go_simp)
  clear cm2 fm2 zm2
  refine hK.out _ _ ?_
  clear hK K
  have HFE:=Lib.hid (show Blk ((wv.setCell ⟨F,3,none⟩ (.int .i64 ((fs.length:Int)+1))).drew) F #[.int .i64 rows,.int .i64 cols,.slice (some ⟨W0,0,none⟩) rows rows,.int .i64 ((fs++[(r,c)]).length:Nat)] by
   rw [List.length_append]
   have:=HFF.out.put (o:=3) (v:=.int .i64 ((fs.length:Int)+1)) (by simp)
   exact this.below (below_drew (Below.refl _ _)))
  have HWE:=Lib.hid ((HWW.out.far (g:=F) (o:=3) (v:=.int .i64 ((fs.length:Int)+1)) (by omega)).below (below_drew (Below.refl _ _)))
  have HGE:=Lib.hid (fun i hi=>by
   obtain ⟨m',hm',hw'⟩:=HGG.out i hi
   exact (⟨m',(hm'.far (g:=F) (o:=3) (v:=.int .i64 ((fs.length:Int)+1)) (by omega)).below (below_drew (Below.refl _ _)),hw'⟩:∃ m:Nat,Blk ((wv.setCell ⟨F,3,none⟩ (.int .i64 ((fs.length:Int)+1))).drew) (g0+i) #[.int .u64 m]∧wrdOf (fs++[(r,c)]) i m))
  have HKE:=Lib.hid ((HKP.out.trans (Kp.set (X:=famX F g0 rows) (o:=3) (v:=.int .i64 ((fs.length:Int)+1)) (.inl rfl)) (fun _ _ h=>h)).drew)
  generalize (wv.setCell ⟨F,3,none⟩ (.int .i64 ((fs.length:Int)+1))).drew=we at *
  clear HFF HWW HGG HKP ca2 hwl
  go_wp2
  go_ret
  refine ⟨rfl,?_,HKE.out⟩
  rw [RES.out]
  exact ⟨HFE.out,HWE.out,HGE.out,HF.out.o1,HF.out.o2,HF.out.c64,HF.out.r64,fun f hf=>by
   rcases List.mem_append.1 hf with hf | hf
   ·exact HF.out.rng f hf
   ·rw [List.mem_singleton.1 hf];exact ⟨hr,hc⟩,nodup_snoc HF.out.nodup HNF.out⟩
end
end
section
open Go.RowKit Go.Shelf

def TB (w:World):Prop:=∀ j,j < Lib.deBruijn64tab.length→w.cell? ⟨0,j,none⟩=some (.int .u8 (Lib.deBruijn64tab.getD j 0))
theorem TB.below {w w':World} (h:TB w) (hb:Below w.heap.size w w'):TB w':=by
 exact fun j hj=>(hb.cell (p:=⟨0,j,none⟩) (World.block_lt_of_cell? w _ (h j hj))).trans (h j hj)
theorem tz_key (x a:Nat) (hx:x < 18446744073709551616) (hx0:x≠0) (hlow:x &&& (18446744073709551616 - x)=a) :
  IntKind.u64.wrap (bits BinOp.and IntKind.u64 (x:Int) (IntKind.u64.wrap (-(x:Int))) * 285870213051353865) / 288230376151711744=((a * 285870213051353865 % 18446744073709551616 / 288230376151711744:Nat):Int):=by
 have e1:IntKind.u64.wrap (-(x:Int))=((18446744073709551616 - x:Nat):Int):=by rw [IntKind.wrap_u64];omega
 rw [e1,bits_and_u64_nat x _ hx (by omega),hlow,IntKind.wrap_u64]
 omega
set_option maxHeartbeats 1000000 in
theorem tz_core (x k idx:Nat) (w:World) (hx1:((x:Int) == 0)=false)
  (key:IntKind.u64.wrap (bits BinOp.and IntKind.u64 (x:Int) (IntKind.u64.wrap (-(x:Int))) * 285870213051353865) / 288230376151711744=(idx:Int))
  (hi:idx < 64) (hk:k < 64) (hcell:w.cell? ⟨0,idx,none⟩=some (.int .u8 k)) :
  Calls Tryz.prog 237 #[.int .u64 x] w fun e w'=>e=.returned (.int .i64 k)∧w'=w:=by
 go_enter Tryz.func237,Tryz.ntmps237
 go_wp2_with (simp only [key])
 go_ret
 exact ⟨rfl,rfl⟩
theorem bits_tz (x:Nat) (hx0:0 < x) (hx:x < 18446744073709551616) (w:World) (hT:TB w) :
  Calls Tryz.prog 237 #[.int .u64 x] w fun e w'=>e=.returned (.int .i64 (Lib.ctz 64 x))∧w'=w:=by
 have hne:x≠0:=by omega
 obtain ⟨hlow,hk⟩:=Lib.lowest_bit 64 x hne hx
 obtain ⟨hi,htab⟩:=Lib.deBruijn64_at _ hk
 have hcell:=hT _ hi
 rw [htab] at hcell
 exact tz_core x _ _ w (by simp;omega) (tz_key x _ hx hne hlow) hi hk hcell
def ints (l:List Nat):List Value:=l.map (fun (c:Nat)=>.int .i64 (c:Int))
theorem int_info:(Tryz.prog.info? 3).map (fun i=>(i.zero,i.size,i.bytes))=some (some (.int .i64 0),1,8):=by kernel_rfl
theorem int1 (x:Int):∀ u∈[Value.int .i64 x],u.oneCell'=true:=fun u hu=>by rw [List.mem_singleton.1 hu];rfl
set_option maxRecDepth 100000 in
set_option maxHeartbeats 4000000 in
theorem fam_List {w:World} {F W0 g0 rows cols:Nat} {fs:List (Nat × Nat)} (h:FamAt w F W0 g0 rows cols fs) (hT:TB w) (i:Nat) (hi:i < rows) :
  Calls Tryz.prog 160 #[.pointer (some ⟨F,0,none⟩),.int .i64 i] w fun e w' => ∃ v,e=.returned v∧w'.ownsRow w.heap.size 3 1 v (colsOf fs i).length (ints (colsOf fs i))∧Below w.heap.size w w':=by
 have R:=Lib.hid (fam_row h i hi)
 obtain ⟨m,hm,hw⟩:=h.gg i hi
 have HM:=Lib.hid hm
 have BC:=Lib.hid (bits_cols hw)
 have hm64:=hw.1
 have HTB:=Lib.hid hT
 have HCL:=colsOf_len fs i
 rw [← BC.out] at HCL ⊢
 clear h hm hw hT BC
 go_enter Tryz.func160,Tryz.ntmps160
 go_wp2_with fail
 refine R.out.mono ?_
 rintro e w1 ⟨rfl,rfl⟩
 clear R
 go_wp2_with fail
 go_loopw [4,11] (fun vo i wr => ∃ (k:Nat) (xs:List Nat),k≤1∧i=.int .i64 k∧Hid (Below w1.heap.size w1 wr)∧Hid (wr.ownsRow w1.heap.size 3 1 vo xs.length (ints xs))∧Hid (k=0→xs=[])∧Hid (k=1→xs=bitsOf m)) (fun _ i _=>1 - (intOf i).toNat)
 case atStart=>exact ⟨0,[],by omega,rfl,Lib.hid (Below.refl _ _),Lib.hid (World.ownsRow_nil _ _ _ _),Lib.hid (fun _=>rfl),Lib.hid (fun h=>by cases h)⟩
 case round =>
  obtain ⟨k,xs,hk,rfl,HB,HO,H0,H1⟩:=hrel
  obtain ⟨oo,oc,rfl⟩:=own_form HO.out
  by_cases hlt:k=0
  ·subst hlt
   obtain rfl:=H0.out rfl
   obtain ⟨cm,fm,zm⟩:=HM.out.below HB.out
   clear fm
   go_wp2_with fail
   obtain ⟨wA,hwA⟩:∃ wA,wA=wr:=⟨_,rfl⟩
   subst hwA
   clear cm zm H0 H1
   go_loopw [4,6] (fun vo vm wr => ∃ (q:Nat) (xs:List Nat),vm=.int .u64 q∧Hid (q < 18446744073709551616)∧Hid (bitsOf m=xs++bitsOf q)∧Hid (Below w1.heap.size w1 wr)∧Hid (wr.ownsRow w1.heap.size 3 1 vo xs.length (ints xs))) (fun _ vm _=>(intOf vm).toNat)
   case atStart=>exact ⟨m,[],rfl,Lib.hid hm64,Lib.hid rfl,HB,HO⟩
   case round =>
    clear HB HO
    obtain ⟨q,xs,rfl,HQ,HE,HB,HO⟩:=hrel
    obtain ⟨oo,oc,rfl⟩:=own_form HO.out
    have hxl:xs.length≤64:=by have:=congrArg List.length HE.out;rw [List.length_append] at this;omega
    by_cases hq:0 < q
    ·have d:((q:Int) != 0)=true:=by rw [bne_iff_ne];omega
     obtain ⟨s1,s2,s3⟩:=bits_step hq HQ.out
     have TZ:=Lib.hid (fun W (hb:Below w1.heap.size w1 W)=>bits_tz q hq HQ.out W (HTB.out.below hb))
     have HS:=Lib.hid s1
     have HOR:=Lib.hid (show bits .and .u64 (q:Int) ((q:Int) - 1)=((q &&& (q - 1):Nat):Int) by
      rw [show (q:Int) - 1=((q - 1:Nat):Int) by omega]
      exact bits_and_u64_nat _ _ HQ.out (by have:=HQ.out;omega))
     have hqq:(q &&& (q - 1)) < q:=Nat.lt_of_le_of_lt Nat.and_le_right (by omega)
     have hq64:=HQ.out
     generalize Lib.ctz 64 q=tz at *
     go_wp2_with fail
     refine (TZ.out _ HB.out).mono ?_
     rintro e w3 ⟨rfl,rfl⟩
     have hown:=HO.out
     clear TZ
     go_wp2_with (at_builtin;refine halt_ ?_)
     unfold Halt_
     refine app_own Tryz.underlying104 int_info rfl (by decide) (by decide) rfl _ _ rfl w1.heap.size rfl (hown.alloc _) [.int .i64 (tz:Int)] rfl (heap_new1 _ _) rfl (int1 _) ?_ ?_ ?_
     ·omega
     ·have:=HB.out.size;simp;omega
     intro a' cap' w4 hown' hgrow
     have HB4:=Lib.hid (below_own (HB.out.alloc HB.out.size _) (hown.alloc _) hgrow (HB.out.alloc HB.out.size _).size (Nat.le_refl _))
     have HO4:=Lib.hid (show w4.ownsRow w1.heap.size 3 1 (.slice a' (xs.length+1) cap') (xs++[tz]).length (ints (xs++[tz])) by rw [List.length_append];unfold ints at hown' ⊢;rw [List.map_append];exact hown')
     clear hown hown' hgrow HB HO
     go_wp2_with fail
     rw [HOR.out]
     exact ⟨⟨q &&& (q - 1),xs++[tz],rfl,Lib.hid (by omega),Lib.hid (by rw [HE.out,HS.out,List.append_assoc];rfl),HB4,HO4⟩,by simp [intOf];omega⟩
    ·obtain rfl:q=0:=by omega
     have HXS:=Lib.hid (show xs=bitsOf m by rw [HE.out,bitsOf_zero,List.append_nil])
     go_wp2_with fail
     exact ⟨⟨1,xs,by omega,by go_num,HB,HO,Lib.hid (fun h=>by cases h),Lib.hid (fun _=>HXS.out)⟩,by simp [intOf]⟩
  ·obtain rfl:k=1:=by omega
   have HXS:=Lib.hid (H1.out rfl)
   go_wp2
   go_ret
   exact ⟨_,rfl,by rw [← HXS.out];exact HO.out,HB.out⟩
end
section
open Go.RowKit Go.Shelf

theorem made_one (z:Value) (n:Nat):madeCells #[z] n=arrOf n (fun _=>z):=by
 apply Array.ext_getElem?
 intro j
 rw [arrOf_get]
 unfold madeCells
 by_cases h:j < n
 ·rw [if_pos h];simp [h,Nat.mod_one]
 ·rw [if_neg h];simp [h]
theorem set_within (n most:Nat) (w:World) (h:n≤most):Calls Tryz.prog 277 #[.int .i64 n,.int .i64 most] w fun e w'=>e=.returned (.int .i64 n)∧w'=w:=by
 go_enter Tryz.func277,Tryz.ntmps277
 go_wp2
 go_ret
 refine ⟨?_,rfl⟩
 show Ending.returned (.int .i64 (max 0 (min (n:Int) (most:Int))))=_
 congr 2
 omega
theorem u64s_info:(Tryz.prog.info? 256).map (fun i=>(i.zero,i.size,i.bytes))=some (some (.slice none 0 0),1,24):=by kernel_rfl
theorem u64_info:(Tryz.prog.info? 258).map (fun i=>(i.zero,i.size,i.bytes))=some (some (.int .u64 0),1,8):=by kernel_rfl
theorem run_mk (t e:TypeId) (z:Value) (bytes:Nat) (ht:Tryz.prog.underlying t=some (.slice e)) (hinfo:(Tryz.prog.info? e).map (fun i=>(i.zero,i.size,i.bytes))=some (some z,1,bytes)) (hz:z.cells=#[z]) (hb:bytes≤100) (n:Nat) (hn:n≤5000) (W:World) :
  (Instr.makeSlice t (.int .i64 (n:Int)) (.int .i64 (n:Int))).run Tryz.prog W=.ok (.slice (some ⟨W.heap.size,0,none⟩) n n) (W.alloc (.cells (arrOf n (fun _=>z)) e)):=by
 obtain ⟨i,hi,hz0,hz1,hz2⟩:=info_parts hinfo
 have hm:bytes * n≤100 * 5000:=Nat.mul_le_mul hb hn
 have h:=run_makeSlice (P:=Tryz.prog) W t e i z ht hi hz0 .i64 .i64 (n:Int) (n:Int) (by omega) (by omega) (by rw [hz1];simp;omega) (by rw [hz2,← Int.natCast_mul];omega) (by omega)
 rw [hz1,hz,Int.toNat_natCast,Nat.mul_one,made_one] at h
 exact h
set_option maxRecDepth 100000 in
set_option maxHeartbeats 4000000 in
theorem set_New (rows cols:Nat) (w:World) (hr:rows≤4096) (hc:0 < cols∨rows=0) (c64:cols≤64) :
  Calls Tryz.prog 230 #[.int .i64 rows,.int .i64 cols] w fun e w' => ∃ F W0 g0,e=.returned (.pointer (some ⟨F,0,none⟩))∧FamAt w' F W0 g0 rows cols []∧Below w.heap.size w w'∧w.heap.size≤F∧g0+rows≤w'.heap.size:=by
 have S1:=Lib.hid (fun W=>set_within rows 5000 W (by omega))
 have S2:=Lib.hid (fun W=>set_within cols 1000 W (by omega))
 have hmk:=fun W=>run_mk 223 256 (.slice none 0 0) 24 Tryz.underlying223 u64s_info rfl (by decide) rows (by omega) W
 go_enter Tryz.func230,Tryz.ntmps230
 go_wp2_with fail
 refine (S1.out _).mono ?_
 rintro e w1 ⟨rfl,rfl⟩
 go_wp2_with fail
 refine (S2.out _).mono ?_
 rintro e w1 ⟨rfl,rfl⟩
 go_wp2_with fail
 have hwr:∀ j:Nat,j < rows→IntKind.i64.wrap ((j:Int)+1)=(j:Int)+1:=fun j hj=>Go.IntWalk.i64_in _ (by omega)
 have hc1:IntKind.i64.wrap ((cols:Int)+64)=(cols:Int)+64:=Go.IntWalk.i64_in _ (by omega)
 have hc2:IntKind.i64.wrap ((cols:Int)+64 - 1)=(cols:Int)+63:=by rw [show (cols:Int)+64 - 1=(cols:Int)+63 by omega];exact Go.IntWalk.i64_in _ (by omega)
 have hmk1:∀ W:World,(Instr.makeSlice 256 (.int .i64 1) (.int .i64 1)).run Tryz.prog W=.ok (.slice (some ⟨W.heap.size,0,none⟩) 1 1) (W.alloc (.cells #[.int .u64 0] 258)) :=
  fun W=>run_mk 256 258 (.int .u64 0) 8 Tryz.underlying256 u64_info rfl (by decide) 1 (by omega) W
 go_loopw [25] (fun i wr => ∃ n:Nat,n≤rows∧i=.int .i64 n∧Hid (wr.heap.size=w1.heap.size+2+n)∧Hid (Below w1.heap.size w1 wr) ∧
   Hid (Blk wr w1.heap.size #[.int .i64 rows,.int .i64 cols,.slice (some ⟨w1.heap.size+1,0,none⟩) rows rows,.int .i64 0]) ∧
   Hid (Blk wr (w1.heap.size+1) (arrOf rows (fun j=>if j < n then .slice (some ⟨w1.heap.size+2+j,0,none⟩) 1 1 else .slice none 0 0))) ∧
   Hid (∀ j,j < n→Blk wr (w1.heap.size+2+j) #[.int .u64 0])) (fun i _=>rows - (intOf i).toNat)
 case atStart =>
  refine ⟨0,by omega,rfl,Lib.hid (by simp),Lib.hid (((Below.refl _ _).alloc (Nat.le_refl _) _).alloc (by simp) _),Lib.hid ((Blk.new w1 _ _).alloc _),Lib.hid ?_,Lib.hid (fun j hj=>absurd hj (by omega))⟩
  have h:=Blk.new (w1.alloc (.cells #[.int .i64 rows,.int .i64 cols,.slice (some ⟨w1.heap.size+1,0,none⟩) rows rows,.int .i64 0] 226)) (arrOf rows fun _=>.slice none 0 0) 256
  have e:(arrOf rows fun j=>if j < 0 then Value.slice (some ⟨w1.heap.size+2+j,0,none⟩) 1 1 else .slice none 0 0)=arrOf rows fun _=>.slice none 0 0:=arrOf_congr (fun i _=>if_neg (by omega))
  rw [e]
  simpa using h
 case round =>
  obtain ⟨n,hn,rfl,HS,HB,HF,HW,HG⟩:=hrel
  by_cases hlt:n < rows
  ·have hcp:0 < cols:=hc.resolve_right (by omega)
   have hc3:IntKind.i64.wrap (((cols:Int)+63) / 64)=1:=by rw [show ((cols:Int)+63) / 64=1 by omega];rfl
   have hc4:IntKind.i64.wrap (((cols:Int)+63).tdiv 64)=1:=by rw [Int.tdiv_eq_ediv_of_nonneg (by omega)];exact hc3
   obtain ⟨cf,ff,zf⟩:=HF.out
   go_wp2_with fail
   refine wp_region_held_drew (S:=(fun W => ∀ o,W.cell? ⟨w1.heap.size,o,none⟩=(#[.int .i64 rows,.int .i64 cols,.slice (some ⟨w1.heap.size+1,0,none⟩) rows rows,.int .i64 0]:Array Value)[o]?)) (by kernel_rfl) (by intro o;rw [World.cell?_drew];exact cf o) (fun hHeld=>?_)
   obtain ⟨wk,hwk⟩:∃ W,W=wr.drew:=⟨_,rfl⟩
   have HBk:Below wr.heap.size wr wk:=by rw [hwk];exact below_drew (Below.refl _ _)
   rw [← hwk] at hHeld ⊢
   have hks:wk.heap.size=w1.heap.size+2+n:=by rw [hwk];exact HS.out
   clear hwk
   have HF2:=HF.out.below HBk
   have HW2:=HW.out.below HBk
   obtain ⟨cf,ff,zf⟩:=HF2
   (refine hyes 0 ?_);(refine hyes 1 ?_);(refine hyes 2 ?_);(refine hyes 3 ?_);(refine hyes 4 ?_);(refine hyes 5 ?_);(refine hyes 6 ?_);(refine hyes 7 ?_);(refine hyes 8 ?_);(refine hyes 9 ?_);(refine hyes 10 ?_);(refine hyes 11 ?_);(try simp only [Act.put,List.setIfInBounds_toArray,List.set])
   (refine held_call 12 rfl (by kernel_rfl) (fun K hK=>?_);go_simp)
   have HB3:Below wk.heap.size wk (wk.alloc (.cells #[.int .u64 0] 258)):=(Below.refl _ _).alloc (Nat.le_refl _) _
   have HW3:=HW2.below HB3
   have HF3:=HF.out.below (HBk.trans (HB3.mono HBk.size))
   have HN3:Blk (wk.alloc (.cells #[.int .u64 0] 258)) (w1.heap.size+2+n) #[.int .u64 0]:=by rw [← hks];exact Blk.new _ _ _
   have HG3:=Lib.hid (fun j hj=>(HG.out j hj).below (HBk.trans (HB3.mono HBk.size)))
   have hk3:(wk.alloc (.cells #[.int .u64 0] 258)).heap.size=w1.heap.size+2+(n+1):=by simp;omega
   have HB4:=Lib.hid (HB.out.trans ((HBk.trans (HB3.mono HBk.size)).mono HB.out.size))
   generalize wk.alloc (.cells #[.int .u64 0] 258)=wm at *
   clear HB3 cf ff zf
   (refine hK.out _ _ (HF3.1) (fun hHeld=>?_);clear hK K;(try simp only [Act.put,List.setIfInBounds_toArray,List.set]))
   (refine hyes 13 ?_);(try simp only [Act.put,List.setIfInBounds_toArray,List.set])
   have cwn:=HW3.1 n
   rw [arrOf_get,if_pos hlt,if_neg (Nat.lt_irrefl n)] at cwn
   have fwn:=HW3.2.1 n
   (refine held_call 14 rfl (by kernel_rfl) (fun K hK=>?_);go_simp)
   have HW5:=HW3.put (o:=n) (v:=.slice (some ⟨w1.heap.size+2+n,0,none⟩) 1 1) (by rw [arrOf_size];exact hlt)
   rw [arrOf_set _ _ _ _ hlt] at HW5
   have e5:(arrOf rows fun j=>if j=n then Value.slice (some ⟨w1.heap.size+2+n,0,none⟩) 1 1 else if j < n then Value.slice (some ⟨w1.heap.size+2+j,0,none⟩) 1 1 else .slice none 0 0)=arrOf rows fun j=>if j < n+1 then Value.slice (some ⟨w1.heap.size+2+j,0,none⟩) 1 1 else .slice none 0 0:=arrOf_congr (fun i _=>by
    by_cases h1:i=n
    ·subst h1;rw [if_pos rfl,if_pos (by omega)]
    ·rw [if_neg h1]
     by_cases h2:i < n
     ·rw [if_pos h2,if_pos (by omega)]
     ·rw [if_neg h2,if_neg (by omega)])
   rw [e5] at HW5
   have HF5:=HF3.far (g:=w1.heap.size+1) (o:=n) (v:=.slice (some ⟨w1.heap.size+2+n,0,none⟩) 1 1) (by omega)
   have HG5:=Lib.hid (show ∀ j,j < n+1→Blk (wm.setCell ⟨w1.heap.size+1,n,none⟩ (.slice (some ⟨w1.heap.size+2+n,0,none⟩) 1 1)) (w1.heap.size+2+j) #[.int .u64 0] from fun j hj=>by
    by_cases h1:j=n
    ·subst h1;exact HN3.far (by omega)
    ·exact (HG3.out j (by omega)).far (by omega))
   have HB5:=Lib.hid (below_put (o:=n) (v:=.slice (some ⟨w1.heap.size+2+n,0,none⟩) 1 1) HB4.out (show w1.heap.size≤w1.heap.size+1 by omega))
   have hk5:(wm.setCell ⟨w1.heap.size+1,n,none⟩ (.slice (some ⟨w1.heap.size+2+n,0,none⟩) 1 1)).heap.size=w1.heap.size+2+(n+1):=by simpa using hk3
   generalize wm.setCell ⟨w1.heap.size+1,n,none⟩ (.slice (some ⟨w1.heap.size+2+n,0,none⟩) 1 1)=wn at *
   (refine hK.out _ _ (HF5.1) (fun hHeld=>?_);clear hK K;(try simp only [Act.put,List.setIfInBounds_toArray,List.set]))
   refine wpAnyH_done (by kernel_rfl) ?_ _
   have HW5:=Lib.hid HW5
   have HF5:=Lib.hid HF5
   clear HW3 HF3 HN3 HG3 HB4 cwn fwn hks hk3 HW2 HBk hHeld
   go_wp2_with fail
   exact ⟨⟨n+1,by omega,by go_num,Lib.hid hk5,HB5,HF5,HW5,HG5⟩,by simp [intOf];omega⟩
  ·obtain rfl:n=rows:=by omega
   have HWE:=Lib.hid (show Blk wr (w1.heap.size+1) (arrOf n (fun i=>.slice (some ⟨w1.heap.size+2+i,0,none⟩) 1 1)) by
    have e:(arrOf n fun j=>if j < n then Value.slice (some ⟨w1.heap.size+2+j,0,none⟩) 1 1 else .slice none 0 0)=arrOf n (fun i=>.slice (some ⟨w1.heap.size+2+i,0,none⟩) 1 1):=arrOf_congr (fun i hi=>if_pos hi)
    rw [← e];exact HW.out)
   clear HW hmk hmk1
   go_wp2
   go_ret
   exact ⟨w1.heap.size,w1.heap.size+1,w1.heap.size+2,rfl,⟨HF.out,HWE.out,fun i hi=>⟨0,HG.out i hi,wrdOf.nil i⟩,by omega,by omega,c64,hr,(fun f hf=>by cases hf),List.nodup_nil⟩,HB.out,Nat.le_refl _,by have:=HS.out;omega⟩
end
section
open Go.RowKit Go.Shelf

set_option maxRecDepth 100000 in
set_option maxHeartbeats 4000000 in
theorem table_For (v0 v1 v2 v3 vm:Value) (l:List St) (g h:List Rl) (qs:List Qv) (more:List ByteArray) (w:World) (hp:PolAt w v0 v1 v2 v3 l g h qs) (hl:l.length≤100) (hg:g.length≤100) (hh:h.length≤100) (hq:qs.length≤100) (F:Qv→List ByteArray) (hF:WhoF w qs F)
  (hm:SlA w 1 vm more.length (strs more)) (hml:more.length≤1000) :
  Calls Tryz.prog 121 #[pv v0 v1 v2 v3,vm] w fun e w' => ∃ t ba bb,e=.returned (.pointer (some ⟨t,0,none⟩))∧TblAt w' t ba bb (newB (newB (allPrins l g h qs F)++more)) (newB (newB (allNames l g h qs)))∧Below w.heap.size w w':=by
 have PP:=Lib.hid (fun W (hb:Below w.heap.size w W)=>policy_Prins v0 v1 v2 v3 l g h qs W (hp.below hb) hl hg hh hq F (hF.below hb))
 have PN:=Lib.hid (fun W (hb:Below w.heap.size w W)=>policy_Names v0 v1 v2 v3 l g h qs W (hp.below hb) hl hg hh hq)
 have HM:=Lib.hid hm
 obtain ⟨a0,c0,rfl⟩:=hp.rs.form
 obtain ⟨a1,c1,rfl⟩:=hp.rg.form
 obtain ⟨a2,c2,rfl⟩:=hp.rh.form
 obtain ⟨a3,c3,rfl⟩:=hp.rq.form
 obtain ⟨am,cm,rfl⟩:=hm.form
 have HT:=Lib.hid (show OneAt w #[.slice a0 l.length c0,.slice a1 g.length c1,.slice a2 h.length c2,.slice a3 qs.length c3] (w.alloc (.cells #[.slice a0 l.length c0,.slice a1 g.length c1,.slice a2 h.length c2,.slice a3 qs.length c3] 26)) from ⟨Blk.new w _ _,(Below.refl _ _).alloc (Nat.le_refl _) _⟩)
 obtain ⟨infs,his,hs0,hs1,hs2⟩:=info_parts str_info
 have HIS:=Lib.hid his
 clear his hp hF hm
 generalize newB (allPrins l g h qs F)=ps at PP ⊢
 generalize newB (allNames l g h qs)=ns at PN ⊢
 go_enter Tryz.func121,Tryz.ntmps121
 go_wp2_with fail
 refine wp_region_held_drew (S:=(fun W => ∀ o,W.cell? ⟨w.heap.size,o,none⟩=(#[.slice a0 l.length c0,.slice a1 g.length c1,.slice a2 h.length c2,.slice a3 qs.length c3]:Array Value)[o]?)) (by kernel_rfl) HT.out.drew.a.1 (fun hHeld=>?_)
 have HT:=HT.out.drew
 obtain ⟨wk,hwk⟩:∃ W,W=(w.alloc (.cells #[.slice a0 l.length c0,.slice a1 g.length c1,.slice a2 h.length c2,.slice a3 qs.length c3] 26)).drew:=⟨_,rfl⟩
 rw [← hwk] at HT hHeld ⊢
 clear hwk
 (refine hyes 0 ?_);(refine hyes 2 ?_);(refine hyes 4 ?_);(try simp only [Act.put,List.setIfInBounds_toArray,List.set])
 (refine held_call 1 rfl (by kernel_rfl) (fun K hK=>?_);go_simp)
 go_at_call 70;refine (PP.out _ HT.low).mono ?_;rintro e w1 ⟨v1,rfl,ho,hpl,hb⟩;have HT1:=HT.later hb;obtain ⟨ao,co,hv⟩:=own_form ho;subst hv;clear PP
 (refine hK.out _ _ (HT1.a.1) (fun hHeld=>?_);clear hK K;(try simp only [Act.put,List.setIfInBounds_toArray,List.set]))
 refine held_call 3 rfl (by kernel_rfl) (fun K hK=>?_)
 refine step_row rfl _ _ 38 rfl wk.heap.size 9 infs _ 1 16 Tryz.underlying38 HIS.out hs0 hs1 hs2 (Nat.le_of_ble_eq_true rfl) rfl (Nat.le_of_ble_eq_true rfl) _ ps.length _ rfl ho _ more.length _ rfl (HM.out.below HT1.low) (strs_one _) (by omega) hb.size ?_
 intro a5 c5 w5 ho5 hg5
 obtain ⟨ho6,hb6⟩:=push_txts hb ho ho5 hg5
 have HT5:=HT.later hb6
 have HS:=Lib.hid (show Sl w5 1 (.slice a5 (ps.length+more.length) c5) (ps++more).length (strs (ps++more)) by rw [List.length_append];exact Sl.of_own ho6)
 clear ho ho5 hg5 ho6 hb6 hb HT1
 (refine hK.out _ _ (HT5.a.1) (fun hHeld=>?_);clear hK K;(try simp only [Act.put,List.setIfInBounds_toArray,List.set]))
 (refine held_call 5 rfl (by kernel_rfl) (fun K hK=>?_);go_simp)
 go_at_call 71;refine (PN.out _ HT5.low).mono ?_;rintro e w6 ⟨v6,rfl,ho,hnl,hb⟩;have HT6:=HT5.later hb;have HS:=Lib.hid (HS.out.below hb);have HN:=Lib.hid (Sl.of_own ho);obtain ⟨an,cn,hv⟩:=own_form ho;subst hv;clear PN ho hb HT5
 (refine hK.out _ _ (HT6.a.1) (fun hHeld=>?_);clear hK K;(try simp only [Act.put,List.setIfInBounds_toArray,List.set]))
 (refine held_call 6 rfl (by kernel_rfl) (fun K hK=>?_);go_simp)
 go_at_call 197;refine (table_New _ _ (ps++more) ns w6 HS.out.a HN.out.a (by rw [List.length_append];omega) (by omega)).mono ?_;rintro e w7 ⟨t,ba,bb,rfl,ht,hb⟩;have HT7:=HT6.later hb;have HTB:=Lib.hid ht;clear ht hb HT6
 (refine hK.out _ _ (HT7.a.1) (fun hHeld=>?_);clear hK K;(try simp only [Act.put,List.setIfInBounds_toArray,List.set]))
 (refine hyes 7 ?_);(try simp only [Act.put,List.setIfInBounds_toArray,List.set])
 refine wpAnyH_done (by kernel_rfl) ?_ _
 have HT:=Lib.hid HT7
 clear HT7
 go_wp2
 go_ret
 exact ⟨t,ba,bb,rfl,HTB.out,HT.out.low⟩

def Ru.cells (r:Ru):List Value:=[.int .i64 r.k,.int .i64 r.h,.int .i64 r.who,.int .i64 r.a,.int .i64 r.b,.int .i64 r.via]
theorem Ru.cells_len (r:Ru):r.cells.length=6:=rfl
theorem ru_cell {w:World} {b off:Nat} {l:List Ru} (h:∀ j u,(l.flatMap Ru.cells)[j]? = some u→w.cell? ⟨b,off+j,none⟩=some u) (k:Nat) (hk:k < l.length) :
  w.cell? ⟨b,off+k * 6,none⟩=some (.int .i64 l[k].k)∧w.cell? ⟨b,off+k * 6+1,none⟩=some (.int .i64 l[k].h)∧w.cell? ⟨b,off+k * 6+2,none⟩=some (.int .i64 l[k].who)∧w.cell? ⟨b,off+k * 6+3,none⟩=some (.int .i64 l[k].a)∧w.cell? ⟨b,off+k * 6+4,none⟩=some (.int .i64 l[k].b)∧w.cell? ⟨b,off+k * 6+5,none⟩=some (.int .i64 l[k].via):=by
 have hx:l[k]? = some l[k]:=List.getElem?_eq_getElem hk
 have h0:=h _ _ ((flat_get Ru.cells 6 Ru.cells_len l k 0 (by omega) _ hx).trans rfl)
 have h1:=h _ _ ((flat_get Ru.cells 6 Ru.cells_len l k 1 (by omega) _ hx).trans rfl)
 have h2:=h _ _ ((flat_get Ru.cells 6 Ru.cells_len l k 2 (by omega) _ hx).trans rfl)
 have h3:=h _ _ ((flat_get Ru.cells 6 Ru.cells_len l k 3 (by omega) _ hx).trans rfl)
 have h4:=h _ _ ((flat_get Ru.cells 6 Ru.cells_len l k 4 (by omega) _ hx).trans rfl)
 have h5:=h _ _ ((flat_get Ru.cells 6 Ru.cells_len l k 5 (by omega) _ hx).trans rfl)
 simp only [Nat.add_zero,← Nat.add_assoc] at h0 h1 h2 h3 h4 h5
 exact ⟨h0,h1,h2,h3,h4,h5⟩
theorem ru_info:(Tryz.prog.info? 151).map (fun i=>(i.zero,i.size,i.bytes))=some (some (.agg #[.int .i64 0,.int .i64 0,.int .i64 0,.int .i64 0,.int .i64 0,.int .i64 0]),6,48):=by kernel_rfl
theorem ru1 (a b c d e f:Int):∀ u∈[Value.int .i64 a,.int .i64 b,.int .i64 c,.int .i64 d,.int .i64 e,.int .i64 f],u.oneCell'=true:=by
 intro u hu;simp at hu;rcases hu with rfl | rfl | rfl | rfl | rfl | rfl <;> rfl
def ruleS (a b:List ByteArray) (s:St):List Ru:=if (ruleN a b s).2=true then [(ruleN a b s).1] else []
def rulesN (a b:List ByteArray) (l:List St):List Ru:=l.flatMap (ruleS a b)
theorem ruleS_len (a b:List ByteArray) (s:St):(ruleS a b s).length≤1:=by unfold ruleS;split <;> simp
theorem push_ru {B:Nat} {wA W w3:World} {vo:Value} {rs:List Ru} {a b c d e f:Int} {a':Option Addr} {cap':Nat} (hb:Below B wA W) (hB:B≤W.heap.size) (hown:W.ownsRow B 151 6 vo rs.length (rs.flatMap Ru.cells))
  (h:w3.ownsRow B 151 6 (.slice a' (rs.length+1) cap') (rs.length+1) (rs.flatMap Ru.cells++[.int .i64 a,.int .i64 b,.int .i64 c,.int .i64 d,.int .i64 e,.int .i64 f])) (hg:W.grownBy w3 vo.ownBlock) :
  w3.ownsRow B 151 6 (.slice a' (rs.length+1) cap') (rs++[(⟨a,b,c,d,e,f⟩:Ru)]).length ((rs++[(⟨a,b,c,d,e,f⟩:Ru)]).flatMap Ru.cells)∧Below B wA w3 :=
 ⟨by rw [List.length_append,List.flatMap_append];exact h,below_own hb hown hg hB (Nat.le_refl _)⟩
set_option maxRecDepth 100000 in
set_option maxHeartbeats 4000000 in
theorem table_Rules {t ba bb:Nat} {a b:List ByteArray} (va:Value) (l:List St) (w:World) (h:TblAt w t ba bb a b) (ha:SlA w 9 va l.length (l.flatMap St.cells)) (hl:allLe l 4294967) (hn:l.length≤100000) :
  Calls Tryz.prog 157 #[.pointer (some ⟨t,0,none⟩),va] w fun e w' => ∃ v,e=.returned v∧w'.ownsRow w.heap.size 151 6 v (rulesN a b l).length ((rulesN a b l).flatMap Ru.cells)∧Below w.heap.size w w':=by
 have HA:=Lib.hid ha
 have TR:=Lib.hid (fun W (hb:Below w.heap.size w W) k (hk:k < l.length)=>table_Rule (h.below hb) l[k] (hl _ (List.getElem_mem hk)))
 have hmax:=ha.max
 obtain ⟨a0,c0,rfl⟩:=ha.form
 clear ha h
 go_enter Tryz.func157,Tryz.ntmps157
 go_wp2_with fail
 go_loopw [4,11] (fun vo i wr => ∃ (k:Nat) (rs:List Ru),k≤l.length∧i=.int .i64 k∧Hid (rs.length≤k)∧Hid (Below w.heap.size w wr)∧Hid (wr.ownsRow w.heap.size 151 6 vo rs.length (rs.flatMap Ru.cells))∧Hid (rs=(l.take k).flatMap (ruleS a b))) (fun _ i _=>l.length - (intOf i).toNat)
 case atStart=>exact ⟨0,[],by omega,rfl,Lib.hid (by simp),Lib.hid (Below.refl _ _),Lib.hid (World.ownsRow_nil _ _ _ _),Lib.hid (by simp)⟩
 case round =>
  obtain ⟨k,rs,hk,rfl,HC,HB,HO,HE⟩:=hrel
  obtain ⟨oo,oc,rfl⟩:=own_form HO.out
  have hrs:=HC.out
  by_cases hlt:k < l.length
  ·obtain ⟨b1,o1,e1,he1,hc1,hm1',hb1,hx1⟩:=HA.out.pos (by omega)
   simp only [Value.slice.injEq,true_and] at he1
   obtain ⟨rfl,rfl⟩:=he1
   obtain ⟨p0,p1,p2,p3,p4,p5,p6,p7,p8⟩:=st_cell (w:=wr) (fun j u hu=>(HB.out.cell (p:=⟨b1,o1+j,none⟩) hb1).trans (hx1 j u hu)) k hlt
   have hbr:b1 < wr.heap.size:=Nat.lt_of_lt_of_le hb1 HB.out.size
   have HF:=Lib.hid (flat_snocF (ruleS a b) hlt)
   have TRk:=Lib.hid (fun W (hb:Below w.heap.size w W)=>TR.out W hb k hlt)
   have HSx:=Lib.hid (show ruleS a b l[k]=if (ruleN a b l[k]).2=true then [(ruleN a b l[k]).1] else [] from rfl)
   clear hx1
   generalize ruleN a b l[k]=rr at TRk HSx
   obtain ⟨⟨k0,k1,k2,k3,k4,k5⟩,ok⟩:=rr
   rw [HSx.out] at HF
   clear HSx
   generalize l[k]=x at *
   obtain ⟨xk,⟨x1,x2⟩,xw,⟨x3,x4⟩,⟨x5,x6⟩,xv⟩:=x
   have HB1:=Lib.hid (HB.out.alloc HB.out.size (.cells #[.int .i64 xk,.string x1,.string x2,.string xw,.string x3,.string x4,.string x5,.string x6,.string xv] 74))
   have HO1:=Lib.hid (HO.out.alloc (.cells #[.int .i64 xk,.string x1,.string x2,.string xw,.string x3,.string x4,.string x5,.string x6,.string xv] 74))
   go_wp2_with fail
   refine (TRk.out _ HB1.out).mono ?_
   rintro e w2 ⟨rfl,hb⟩
   have HO2:=Lib.hid (own_below HO1.out hb)
   have HB2:=Lib.hid (HB1.out.trans (hb.mono HB1.out.size))
   clear hb TRk HO1 HB1 HB HO
   cases ok with
   | true =>
    have hsz:=HB2.out.size
    go_wp2_with (at_builtin;refine halt_ ?_)
    unfold Halt_
    refine app_own Tryz.underlying162 ru_info rfl (by decide) (by decide) rfl _ _ rfl w.heap.size rfl ((HO2.out.alloc _).alloc _) [.int .i64 k0,.int .i64 k1,.int .i64 k2,.int .i64 k3,.int .i64 k4,.int .i64 k5] rfl (heap_new2 _ _ _) rfl (ru1 _ _ _ _ _ _) ?_ ?_ ?_
    ·omega
    ·simp;omega
    intro a' cap' w3 hown' hgrow
    obtain ⟨q1,q2⟩:=push_ru ((HB2.out.alloc HB2.out.size _).alloc (by simp;omega) _) (by simp;omega) ((HO2.out.alloc _).alloc _) hown' hgrow
    have HO3:=Lib.hid q1
    have HB3:=Lib.hid q2
    clear hown' hgrow q1 q2 hsz
    go_wp2_with fail
    exact ⟨⟨k+1,rs++[⟨k0,k1,k2,k3,k4,k5⟩],by omega,by go_num,Lib.hid (by rw [List.length_append];exact Nat.succ_le_succ hrs),HB3,HO3,Lib.hid (by rw [HF.out,HE.out];rfl)⟩,by simp [intOf];omega⟩
   | false =>
    have HO3:=Lib.hid (HO2.out.alloc (.cells #[.int .i64 k0,.int .i64 k1,.int .i64 k2,.int .i64 k3,.int .i64 k4,.int .i64 k5] 151))
    have HB3:=Lib.hid (HB2.out.alloc HB2.out.size (.cells #[.int .i64 k0,.int .i64 k1,.int .i64 k2,.int .i64 k3,.int .i64 k4,.int .i64 k5] 151))
    go_wp2_with fail
    exact ⟨⟨k+1,rs,by omega,by go_num,Lib.hid (by omega),HB3,HO3,Lib.hid (by rw [HF.out,HE.out];simp)⟩,by simp [intOf];omega⟩
  ·have HRS:=Lib.hid (show rs=rulesN a b l by rw [HE.out,List.take_of_length_le (show l.length≤k by omega)];rfl)
   go_wp2
   go_ret
   exact ⟨_,rfl,by rw [← HRS.out];exact HO.out,HB.out⟩
theorem new_idem (l:List ByteArray):newB (newB l)=newB l :=
 asc_uniqueB _ _ (new_asc _) (new_asc _) (fun x=>by rw [new_mem])
end
end Go.Proofs.YtilgbodgmkmjjaaGreatDoor
