/- Parts: SimDecideE StrEq MatSpec SemBound CostFns MatFns RefMemO -/
import Derived.Test.YtilgbodgmkmjjaaGreatDoorPart18
import Derived.Test.YtilgbodgmkmjjaaGreatDoorPart17
import Derived.Test.YtilgbodgmkmjjaaGreatDoorPart6
import Derived.Test.YtilgbodgmkmjjaaGreatDoorPart16
import Derived.Test.YtilgbodgmkmjjaaGreatDoorPart13
import Derived.Test.YtilgbodgmkmjjaaGreatDoorPart8
namespace Go.Proofs.YtilgbodgmkmjjaaGreatDoor
section
open Go.RowKit Go.Shelf

section
variable {w W:World} {v0 v1 v2 v3 vq:Value} {l:List St} {g h:List Rl} {qs:List Qv} {q:Qv} {us PS NS:List ByteArray}
end
end
section
open Go.RowKit Go.Shelf

theorem take_moreT {α:Type} {l m:List α} {k:Nat} (h:l.take k=m.take k) (hl:k < l.length) (hm:k < m.length) (e:l[k]=m[k]):l.take (k+1)=m.take (k+1):=by
 rw [List.take_succ_eq_append_getElem hl,List.take_succ_eq_append_getElem hm,h,e]
theorem same_endT {l m:List ByteArray} {k:Nat} (h:l.take k=m.take k) (hl:¬ k < l.length) (hm:¬ k < m.length):decide (l=m)=true:=by
 rw [List.take_of_length_le (by omega),List.take_of_length_le (by omega)] at h
 exact decide_eq_true h
theorem same_noT {l m:List ByteArray} {k:Nat} (hl:k < l.length) (hm:k < m.length) (e:¬ l[k]=m[k]):decide (l=m)=false:=decide_eq_false (fun h=>e (by subst h;rfl))
theorem same_lenT {l m:List ByteArray} (h:¬ l.length=m.length):decide (l=m)=false:=decide_eq_false (fun e=>h (by rw [e]))
set_option maxRecDepth 100000 in
set_option maxHeartbeats 2000000 in
theorem str_Equal (va vb:Value) (l m:List ByteArray) (w:World) (ha:SlA w 1 va l.length (strs l)) (hb:SlA w 1 vb m.length (strs m)) :
  Calls Tryz.prog 161 #[va,vb] w fun e w'=>e=.returned (.bool (decide (l=m)))∧∃ n,w'=w.drewN n:=by
 have hmax:=ha.max
 have hmax2:=hb.max
 by_cases hl:l.length=m.length
 case neg =>
  have R:=Lib.hid (same_lenT hl)
  have d:((l.length:Int) != (m.length:Int))=true:=by rw [bne_iff_ne];omega
  obtain ⟨a1,c1,rfl⟩:=ha.form
  obtain ⟨a2,c2,rfl⟩:=hb.form
  clear ha hb hl
  go_enter Tryz.func161,Tryz.ntmps161
  go_wp2
  go_ret
  exact ⟨ret_b R.out.symm,0,rfl⟩
 have hne:((l.length:Int) != (m.length:Int))=false:=by rw [hl];simp
 by_cases h0:0 < l.length
 ·obtain ⟨b1,o1,c1,rfl,hc1,hm1,_,hx1⟩:=ha.pos h0
  obtain ⟨b2,o2,c2,rfl,hc2,hm2,_,hx2⟩:=hb.pos (by omega)
  have HX1:=Lib.hid hx1
  have HX2:=Lib.hid hx2
  have HL:=Lib.hid hl
  clear ha hb hx1 hx2 hl
  go_enter Tryz.func161,Tryz.ntmps161
  go_wp2
  go_loopw [13] (fun i wr => ∃ k n:Nat,k≤l.length∧i=.int .i64 k∧wr=w.drewN n∧Hid (l.take k=m.take k)) (fun i _=>l.length - (intOf i).toNat)
  case atStart=>exact ⟨0,0,by omega,rfl,rfl,Lib.hid (by simp)⟩
  case round =>
   obtain ⟨k,n,hk,rfl,rfl,HT⟩:=hrel
   by_cases hlt:k < l.length
   ·have hlt2:k < m.length:=by have:=HL.out;omega
    have p0:=HX1.out k _ (strs_get hlt)
    have q0:=HX2.out k _ (strs_get hlt2)
    by_cases he:l[k]=m[k]
    ·have HN:=Lib.hid (take_moreT HT.out hlt hlt2 he)
     have d1:(!(l[k].toList == m[k].toList))=false:=by rw [beq_str,decide_eq_true he];rfl
     clear he
     generalize l[k]=x at *
     generalize m[k]=y at *
     go_wp2_with fail
     go_big_quiet (fail)
     go_wp2
     exact ⟨⟨k+1,n+nq,by omega,by go_num,rfl,HN⟩,by simp [intOf];omega⟩
    ·have R:=Lib.hid (same_noT hlt hlt2 he)
     have d1:(!(l[k].toList == m[k].toList))=true:=by rw [beq_str,decide_eq_false he];rfl
     clear he
     generalize l[k]=x at *
     generalize m[k]=y at *
     go_wp2_with fail
     go_big_quiet (fail)
     go_wp2
     go_ret
     exact ⟨ret_b R.out.symm,n+nq,by simp [World.drewN,Nat.add_assoc]⟩
   ·have R:=Lib.hid (same_endT HT.out hlt (by have:=HL.out;omega))
    go_wp2
    go_ret
    exact ⟨ret_b R.out.symm,n,rfl⟩
 ·have R:=Lib.hid (same_endT (l:=l) (m:=m) (k:=0) (by simp) h0 (by omega))
  obtain ⟨a1,c1,rfl⟩:=ha.form
  obtain ⟨a2,c2,rfl⟩:=hb.form
  have d0:l.length=0:=by omega
  have d02:m.length=0:=by omega
  clear ha hb h0 hmax hl hmax2
  go_enter Tryz.func161,Tryz.ntmps161
  go_wp2
  go_loopw [13] (fun i wr=>i=.int .i64 0∧wr=w) (fun _ _=>0)
  case atStart=>exact ⟨rfl,rfl⟩
  case round =>
   obtain ⟨rfl,rfl⟩:=hrel
   go_wp2
   go_ret
   exact ⟨ret_b R.out.symm,0,rfl⟩
end
section
open Go.RowKit Go.Shelf

structure MR where
 r:Rl
 lo:List ByteArray
 hi:List ByteArray
 op:Bool
 k:Int
structure MV where
 s:MR
 lv:Value
 hv:Value
def MV.cells (x:MV):List Value:=[.string x.s.r.o,.string x.s.r.n,x.lv,x.hv,.bool x.s.op,.int .i64 x.s.k]
theorem MV.cells_len (x:MV):x.cells.length=6:=rfl
abbrev mv (x:MV):Value:=.agg #[.string x.s.r.o,.string x.s.r.n,x.lv,x.hv,.bool x.s.op,.int .i64 x.s.k]
def MV.ok (w:World) (x:MV):Prop:=SlA w 1 x.lv x.s.lo.length (strs x.s.lo)∧SlA w 1 x.hv x.s.hi.length (strs x.s.hi)
theorem MV.ok.below {w w':World} {x:MV} (h:x.ok w) (hb:Below w.heap.size w w'):x.ok w':=⟨h.1.below hb,h.2.below hb⟩
def kindM (op:Bool) (lo hi:List ByteArray):Int:=if op=true then 3 else if hi.length=0 then 4 else if lo=hi then 1 else 2
def rowM (ps es:List Pr) (x:ByteArray) (r:Rl):MR :=
 ⟨r,membersP ps r,(membersP es r).filter (fun y => !decide (y=x)),(membersP es r).any (fun y=>decide (y=x)),kindM ((membersP es r).any (fun y=>decide (y=x))) (membersP ps r) ((membersP es r).filter (fun y => !decide (y=x)))⟩
theorem mv_cell {w:World} {b off:Nat} {l:List MV} (h:∀ j u,(l.flatMap MV.cells)[j]? = some u→w.cell? ⟨b,off+j,none⟩=some u) (k:Nat) (hk:k < l.length) :
  w.cell? ⟨b,off+k * 6,none⟩=some (.string l[k].s.r.o)∧w.cell? ⟨b,off+k * 6+1,none⟩=some (.string l[k].s.r.n)∧w.cell? ⟨b,off+k * 6+2,none⟩=some l[k].lv∧w.cell? ⟨b,off+k * 6+3,none⟩=some l[k].hv∧w.cell? ⟨b,off+k * 6+4,none⟩=some (.bool l[k].s.op)∧w.cell? ⟨b,off+k * 6+5,none⟩=some (.int .i64 l[k].s.k):=by
 have hg:∀ f (hf:f < 6),w.cell? ⟨b,off+k * 6+f,none⟩=l[k].cells[f]? := fun f hf=>by
  have e:=flat_get MV.cells 6 MV.cells_len l k f hf l[k] (List.getElem?_eq_getElem hk)
  have hs:(l[k].cells)[f]? = some ((l[k].cells)[f]'(by rw [MV.cells_len];exact hf)):=List.getElem?_eq_getElem _
  rw [hs] at e ⊢
  rw [Nat.add_assoc]
  exact h _ _ e
 exact ⟨hg 0 (by decide),hg 1 (by decide),hg 2 (by decide),hg 3 (by decide),hg 4 (by decide),hg 5 (by decide)⟩
theorem mr_info:(Tryz.prog.info? 40).map (fun i=>(i.zero,i.size,i.bytes))=some (some (.agg #[.string emp,.string emp,.slice none 0 0,.slice none 0 0,.bool false,.int .i64 0]),6,96):=by kernel_rfl
theorem mv_one {x:MV} (h1:x.lv.oneCell'=true) (h2:x.hv.oneCell'=true):∀ u∈x.cells,u.oneCell'=true:=by
 intro u hu
 simp only [MV.cells,List.mem_cons,List.not_mem_nil,or_false] at hu
 rcases hu with rfl | rfl | rfl | rfl | rfl | rfl
 ·rfl
 ·rfl
 ·exact h1
 ·exact h2
 ·rfl
 ·rfl
theorem take_filter {A:List ByteArray} {p:ByteArray→Bool} {k:Nat} (hk:k < A.length):(A.take (k+1)).filter p=(A.take k).filter p++(if p A[k]=true then [A[k]] else []):=by
 rw [List.take_succ_eq_append_getElem hk,List.filter_append,List.filter_cons,List.filter_nil]
theorem take_any {A:List ByteArray} {p:ByteArray→Bool} {k:Nat} (hk:k < A.length):(A.take (k+1)).any p=((A.take k).any p || p A[k]):=by
 rw [List.take_succ_eq_append_getElem hk,List.any_append,List.any_cons,List.any_nil,Bool.or_false]
section
variable {w:World} {v0 v1 v2 v3:Value} {l:List St} {g h:List Rl} {qs:List Qv} {F:Qv→List ByteArray} {PS NS:List ByteArray}
theorem PolX.lowM (P:PolX w v0 v1 v2 v3 l g h qs F PS NS) (h6:PS.length≤16) (h4:NS.length≤12):SameM PS NS (minS l h) :=
 ⟨by omega,by omega,P.ascP,P.ascN,fun s hs=>ruleN_in (P.rl s (List.mem_filter.1 hs).1) (P.inAB s (List.mem_filter.1 hs).1)⟩
theorem PolX.lowEval (P:PolX w v0 v1 v2 v3 l g h qs F PS NS) (h6:PS.length≤16) (h4:NS.length≤12) :
  Calls Tryz.prog 68 #[pv v0 v1 v2 v3] w fun e w' => ∃ t M fs st,e=.returned (.tuple #[.pointer (some ⟨t,0,none⟩),.pointer (some ⟨M,0,none⟩)])∧TmAt w' t M PS NS (minS l h) fs st∧Below w.heap.size w w':=by
 have:=low_Eval v0 v1 v2 v3 l g h qs w P.at_ P.hl P.hg P.hh P.hq F P.hF P.hs P.hT (by rw [P.eP];omega) (by rw [P.eN];omega)
 rw [P.eP,P.eN] at this
 exact this
end
end
section
open Go.RowKit Go.Shelf

end
section
open Go.RowKit Go.Shelf

section
variable {w:World} {v0 v1 v2 v3:Value} {l:List St} {g h:List Rl} {qs:List Qv} {F:Qv→List ByteArray} {q:Qv} {us PS NS:List ByteArray}
end
section
variable {w:World} {v0 v1 v2 v3:Value} {l:List St} {g h:List Rl} {qs:List Qv} {q:Qv} {us PS NS:List ByteArray}
end
end
section
open Go.RowKit Go.Shelf

set_option maxRecDepth 100000 in
set_option maxHeartbeats 2000000 in
theorem mat_kind (r:Rl) (lv hv:Value) (lo hi:List ByteArray) (op:Bool) (k:Int) (w:World) (hl:SlA w 1 lv lo.length (strs lo)) (hh:SlA w 1 hv hi.length (strs hi)) :
  Calls Tryz.prog 75 #[.agg #[.string r.o,.string r.n,lv,hv,.bool op,.int .i64 k]] w fun e w'=>e=.returned (.int .i64 (kindM op lo hi))∧Below w.heap.size w w':=by
 have HLo:=Lib.hid hl
 have HHi:=Lib.hid hh
 obtain ⟨la,lc,rfl⟩:=hl.form
 obtain ⟨ha,hc,rfl⟩:=hh.form
 obtain ⟨r1,r2⟩:=r
 have HB:=Lib.hid (show Below w.heap.size w (w.alloc (.cells #[.string r1,.string r2,.slice la lo.length lc,.slice ha hi.length hc,.bool op,.int .i64 k] 40)) from (Below.refl _ _).alloc (Nat.le_refl _) _)
 clear hl hh
 go_enter Tryz.func75,Tryz.ntmps75
 cases op with
 | true =>
  go_wp2
  go_ret
  exact ⟨rfl,HB.out⟩
 | false =>
  by_cases h0:hi.length=0
  ·have hn:hi=[]:=List.eq_nil_of_length_eq_zero h0
   subst hn
   have R:=Lib.hid (show kindM false lo []=4 by rfl)
   rw [R.out]
   clear R h0
   go_wp2
   go_ret
   exact ⟨rfl,HB.out⟩
  ·have d0:((hi.length:Int) == 0)=false:=by rw [beq_eq_false_iff_ne];omega
   have EQ:=Lib.hid (str_Equal (.slice la lo.length lc) (.slice ha hi.length hc) lo hi _ (HLo.out.below HB.out) (HHi.out.below HB.out))
   have R:=Lib.hid (show kindM false lo hi=if lo=hi then 1 else 2 by unfold kindM;rw [if_neg (by decide),if_neg h0])
   clear h0
   go_wp2_with fail
   refine EQ.out.mono ?_
   rintro e w1 ⟨rfl,n,rfl⟩
   have HB1:=Lib.hid (show Below w.heap.size w (World.drewN _ n) from below_drewN HB.out n)
   by_cases he:lo=hi
   ·have d1:decide (lo=hi)=true:=decide_eq_true he
    have R1:=Lib.hid (show kindM false lo hi=1 by rw [R.out,if_pos he])
    clear EQ he
    rw [d1]
    go_wp2
    go_ret
    exact ⟨by rw [R1.out];rfl,HB1.out⟩
   ·have d1:decide (lo=hi)=false:=decide_eq_false he
    have R1:=Lib.hid (show kindM false lo hi=2 by rw [R.out,if_neg he])
    clear EQ he
    rw [d1]
    go_wp2
    go_ret
    exact ⟨by rw [R1.out];rfl,HB1.out⟩
def RowsIn (w:World) (R:List MV):Prop:=∀ x∈R,w.ownsRow 0 9 1 x.lv x.s.lo.length (strs x.s.lo)∧w.ownsRow 0 9 1 x.hv x.s.hi.length (strs x.s.hi)
theorem RowsIn.below {w w':World} {R:List MV} (h:RowsIn w R) (hb:Below w.heap.size w w'):RowsIn w' R:=fun x hx=>⟨own_below (h x hx).1 hb,own_below (h x hx).2 hb⟩
theorem RowsIn.far {w w':World} {R:List MV} {B n size:Nat} {v:Value} {xs:List Value} (h:RowsIn w R) (ho:w.ownsRow B 40 size v n xs) (hg:w.grownBy w' v.ownBlock):RowsIn w' R :=
 fun x hx=>⟨own_far (h x hx).1 ho hg (by decide),own_far (h x hx).2 ho hg (by decide)⟩
theorem RowsIn.ok {w:World} {R:List MV} (h:RowsIn w R):∀ x∈R,x.ok w:=fun x hx=>⟨(Sl.of_own (h x hx).1).a,(Sl.of_own (h x hx).2).a⟩
theorem RowsIn.snoc {w:World} {R:List MV} {x:MV} (h:RowsIn w R) (h1:w.ownsRow 0 9 1 x.lv x.s.lo.length (strs x.s.lo)) (h2:w.ownsRow 0 9 1 x.hv x.s.hi.length (strs x.s.hi)):RowsIn w (R++[x]):=fun y hy=>by
 rcases List.mem_append.1 hy with hy | hy
 ·exact h y hy
 ·rw [List.mem_singleton.1 hy];exact ⟨h1,h2⟩
abbrev Kp1 (g:Nat) (w w':World):Prop:=Kp (fun b=>b=g) w w'
theorem Kp1.below {g:Nat} {w w':World} (h:Kp1 g w w') (hg:g≤w.heap.size):Below g w w':=Kp.below h hg (fun b hb e=>by omega)
theorem Kp1.later {g:Nat} {w w' W:World} (h:Kp1 g w w') (hb:Below w'.heap.size w' W):Kp1 g w W:=h.trans (Kp.of_below (X:=fun b=>b=g) hb) (fun _ _ e=>e)
theorem Kp1.set {g o:Nat} {v:Value} {w w':World} (h:Kp1 g w w'):Kp1 g w (w'.setCell ⟨g,o,none⟩ v):=h.trans (Kp.set (X:=fun b=>b=g) rfl) (fun _ _ e=>e)
theorem Kp1.grown {g B size n:Nat} {e:TypeId} {v:Value} {xs:List Value} {w w' W:World} (h:Kp1 g w w') (ho:w'.ownsRow B e size v n xs) (hg:w'.grownBy W v.ownBlock) (hB:w.heap.size≤B):Kp1 g w W :=
 ⟨hg.os.trans h.os,hg.tape.trans h.tape,hg.output.trans h.output,Nat.le_trans h.size hg.size,fun k hk hx=>(hg.block k (Nat.lt_of_lt_of_le hk h.size) (fun e=>by have:=(ho.lt k e.symm).1;omega)).trans (h.block k hk hx)⟩
theorem own_cell {w:World} {B:Nat} {e:TypeId} {a:Option Addr} {c n:Nat} {xs:List Value} (h:w.ownsRow B e 1 (.slice a n c) n xs) {k:Nat} {u:Value} (hu:xs[k]? = some u) :
  ∃ b o,a=some ⟨b,o,none⟩∧w.cell? ⟨b,o+k,none⟩=some u∧n≤c∧c≤9223372036854775807∧b < w.heap.size:=by
 have hl:=(Sl.of_own h).len
 have hk:k < xs.length:=(List.getElem?_eq_some_iff.1 hu).1
 obtain ⟨b,o,c',e,h1,h2,h3,h4⟩:=(Sl.of_own h).pos (by omega)
 simp only [Value.slice.injEq,true_and] at e
 obtain ⟨rfl,rfl⟩:=e
 exact ⟨b,o,rfl,h4 k _ hu,h1,h2,h3⟩
section
variable {w:World} {v0 v1 v2 v3:Value} {l:List St} {g h:List Rl} {qs:List Qv} {F:Qv→List ByteArray} {PS NS:List ByteArray}
theorem policy_PrinsO (P:PolX w v0 v1 v2 v3 l g h qs F PS NS):Calls Tryz.prog 70 #[pv v0 v1 v2 v3] w fun e w' => ∃ v,e=.returned v∧w'.ownsRow w.heap.size 9 1 v PS.length (strs PS)∧Below w.heap.size w w':=by
 have:=policy_Prins v0 v1 v2 v3 l g h qs w P.at_ P.hl P.hg P.hh P.hq F P.hF
 rw [P.eP] at this
 refine this.mono ?_
 rintro e w' ⟨v,rfl,ho,_,hb⟩
 exact ⟨v,rfl,ho,hb⟩
theorem policy_NamesO (P:PolX w v0 v1 v2 v3 l g h qs F PS NS):Calls Tryz.prog 71 #[pv v0 v1 v2 v3] w fun e w' => ∃ v,e=.returned v∧w'.ownsRow w.heap.size 9 1 v NS.length (strs NS)∧Below w.heap.size w w':=by
 have:=policy_Names v0 v1 v2 v3 l g h qs w P.at_ P.hl P.hg P.hh P.hq
 rw [P.eN] at this
 refine this.mono ?_
 rintro e w' ⟨v,rfl,ho,_,hb⟩
 exact ⟨v,rfl,ho,hb⟩
theorem colsI_get {fs:List (Nat × Nat)} {i:Int} {j:Nat} (hj:j < (colsI fs i).length):(colsI fs i)[j] < 64:=by
 have hm:=List.getElem_mem hj
 generalize (colsI fs i)[j]=c at *
 unfold colsI at hm
 split at hm
 ·exact (colsOf_mem.1 hm).1
 ·cases hm
theorem who_snoc {A:List ByteArray} {cs:List Nat} {j:Nat} (hj:j < cs.length):whoN A (cs.take (j+1))=whoN A (cs.take j)++[atB A (cs[j]:Nat)]:=by
 unfold whoN;rw [take_snoc hj,List.map_append];rfl
set_option maxRecDepth 100000 in
set_option maxHeartbeats 16000000 in
theorem matrix_Of (P:PolX w v0 v1 v2 v3 l g h qs F PS NS) (h6:PS.length≤16) (h4:NS.length≤12) (hR:∀ W,Below w.heap.size w W→Calls Tryz.prog 66 #[pv v0 v1 v2 v3] W fun e w'=>e=.returned (.bool true)∧Below W.heap.size W w')
  (ps es:List Pr) (hps:LeastS (minS l h) (fun r x=>(r,x)∈ps)) (hes:LeastS (maxS l g PS NS) (fun r x=>(r,x)∈es)) :
  Calls Tryz.prog 13 #[pv v0 v1 v2 v3] w fun e w' => ∃ (v:Value) (R:List MV),e=.returned (.tuple #[v,.int .i64 0])∧Sl w' 6 v R.length (R.flatMap MV.cells)∧RowsIn w' R∧R.map MV.s=(allR PS NS).map (rowM ps es (freshB PS))∧Below w.heap.size w w':=by
 have RT:=Lib.hid hR
 have FR:=Lib.hid (fun W (hb:Below w.heap.size w W)=>high_Fresh (P.below hb))
 have LE:=Lib.hid (fun W (hb:Below w.heap.size w W)=>(P.below hb).lowEval h6 h4)
 have HE:=Lib.hid (fun W (hb:Below w.heap.size w W)=>high_Eval (P.below hb) h6 h4)
 have PP:=Lib.hid (fun W (hb:Below w.heap.size w W)=>policy_PrinsO (P.below hb))
 have PN:=Lib.hid (fun W (hb:Below w.heap.size w W)=>policy_NamesO (P.below hb))
 have HTB:=Lib.hid P.hT
 have LM:=Lib.hid (P.lowM h6 h4)
 have HM:=Lib.hid (P.highM h6 h4)
 have hpx:=putX_len PS
 have HPS:=Lib.hid hps
 have HES:=Lib.hid hes
 obtain ⟨a0,c0,rfl⟩:=P.at_.rs.form
 obtain ⟨a1,c1,rfl⟩:=P.at_.rg.form
 obtain ⟨a2,c2,rfl⟩:=P.at_.rh.form
 obtain ⟨a3,c3,rfl⟩:=P.at_.rq.form
 have HT:=Lib.hid (show OneAt w #[.slice a0 l.length c0,.slice a1 g.length c1,.slice a2 h.length c2,.slice a3 qs.length c3] (w.alloc (.cells #[.slice a0 l.length c0,.slice a1 g.length c1,.slice a2 h.length c2,.slice a3 qs.length c3] 26)) from ⟨Blk.new w _ _,(Below.refl _ _).alloc (Nat.le_refl _) _⟩)
 obtain ⟨sinf,hsi,hs0,hs1,hs2⟩:=info_parts str_info
 have HSI:=Lib.hid hsi
 clear hsi
 obtain ⟨X,hX⟩:∃ X,X=freshB PS:=⟨_,rfl⟩
 rw [← hX] at FR ⊢
 clear P hR hps hes hX
 go_enter Tryz.func13,Tryz.ntmps13
 go_wp2_with fail
 refine (RT.out _ HT.out.low).mono ?_
 rintro e w1 ⟨rfl,hb1⟩
 have HT:=Lib.hid (HT.out.later hb1)
 clear hb1 RT
 obtain ⟨ca,fa,za⟩:=HT.out.a
 go_wp2_with fail
 refine (FR.out _ HT.out.low).mono ?_
 rintro e w2 ⟨rfl,hb2⟩
 have HT:=Lib.hid (HT.out.later hb2)
 clear hb2 FR ca fa za
 obtain ⟨ca,fa,za⟩:=HT.out.a
 go_wp2_with fail
 refine (LE.out _ HT.out.low).mono ?_
 rintro e w3 ⟨t,M,fs,st,rfl,ht,hb3⟩
 have HT:=Lib.hid (HT.out.later hb3)
 have HLt:=Lib.hid ht
 have EL:=Lib.hid (fun r=>model_members LM.out.2.2.1 LM.out.2.2.2.1 LM.out.1 LM.out.2.1 LM.out.2.2.2.2 HPS.out ht.least ht.rng r)
 clear hb3 ht LE ca fa za
 obtain ⟨ca,fa,za⟩:=HT.out.a
 go_wp2_with fail
 refine (HE.out _ HT.out.low).mono ?_
 rintro e w4 ⟨t',M',fs',st',rfl,ht,hb4⟩
 have HT:=Lib.hid (HT.out.later hb4)
 have HLt:=Lib.hid (HLt.out.below hb4)
 have HHt:=Lib.hid ht
 have EH:=Lib.hid (fun r=>model_members HM.out.2.2.1 HM.out.2.2.2.1 HM.out.1 HM.out.2.1 HM.out.2.2.2.2 HES.out ht.least ht.rng r)
 clear hb4 ht HE LM HM HPS HES ca fa za
 generalize putX PS=PX at *
 generalize maxS l g PS NS=mx at *
 generalize minS l h=mn at *
 obtain ⟨ca,fa,za⟩:=HT.out.a
 go_wp2_with fail
 refine (PP.out _ HT.out.low).mono ?_
 rintro e w5 ⟨vp,rfl,hop,hb5⟩
 obtain ⟨pa,pc,rfl⟩:=own_form hop
 have HT:=Lib.hid (HT.out.later hb5)
 have HLt:=Lib.hid (HLt.out.below hb5)
 have HHt:=Lib.hid (HHt.out.below hb5)
 have HPo:=Lib.hid (own_mono hop (Nat.zero_le _))
 clear hb5 hop PP ca fa za
 go_wp2_with fail
 have hz5:w.heap.size < w5.heap.size:=HT.out.a.2.2
 go_loopw [2,37] (fun vo i wr => ∃ (k:Nat) (R:List MV),k≤PS.length∧i=.int .i64 k∧Hid (R.map MV.s=(allR (PS.take k) NS).map (rowM ps es X))∧Hid (Below w5.heap.size w5 wr)∧Hid (wr.ownsRow w5.heap.size 40 6 vo R.length (R.flatMap MV.cells))∧Hid (RowsIn wr R)) (fun _ i _=>PS.length - (intOf i).toNat)
 case atStart=>exact ⟨0,[],by omega,rfl,Lib.hid rfl,Lib.hid (Below.refl _ _),Lib.hid (World.ownsRow_nil _ _ _ _),Lib.hid (fun _ hx=>by cases hx)⟩
 case round =>
  obtain ⟨k,R,hk,rfl,HE,HB,HO,HR⟩:=hrel
  obtain ⟨oo,oc,rfl⟩:=own_form HO.out
  have hRl:R.length≤16 * 12:=by
   have:=congrArg List.length HE.out
   rw [List.length_map,List.length_map,allR_len] at this
   rw [this]
   exact Nat.mul_le_mul (by have:=List.length_take_le k PS;omega) h4
  by_cases hlt:k < PS.length
  ·obtain ⟨b1,o1,rfl,p0,hc1,hm1,hb1⟩:=own_text (own_below HPo.out HB.out) hlt rfl
   have HF:=Lib.hid (allR_snoc (B:=NS) hlt)
   generalize PS[k]=x at *
   have HTr:=Lib.hid (HT.out.later HB.out)
   obtain ⟨ca,fa,za⟩:=HTr.out.a
   go_wp2_with fail
   refine (PN.out _ HTr.out.low).mono ?_
   rintro e w6 ⟨vn,rfl,hon,hb6⟩
   obtain ⟨an,cn,rfl⟩:=own_form hon
   have HB6:=Lib.hid (HB.out.trans (hb6.mono HB.out.size))
   have HO6:=Lib.hid (own_below HO.out hb6)
   have HR6:=Lib.hid (HR.out.below hb6)
   have HN6:=Lib.hid (own_mono hon (Nat.zero_le _))
   clear hon hb6 ca fa za p0 hb1 HTr HB HO HR
   go_wp2_with fail
   go_loopw [2,44] (fun vo i wr2 => ∃ (m:Nat) (S:List MV),m≤NS.length∧i=.int .i64 m∧Hid (S.map MV.s=R.map MV.s++((NS.take m).map (fun n=>(⟨x,n⟩:Rl))).map (rowM ps es X))∧Hid (Below w5.heap.size w5 wr2)∧Hid (wr2.ownsRow w5.heap.size 40 6 vo S.length (S.flatMap MV.cells))∧Hid (RowsIn wr2 S)∧Hid (wr2.ownsRow 0 9 1 (.slice an NS.length cn) NS.length (strs NS))) (fun _ i _=>NS.length - (intOf i).toNat)
   case atStart=>exact ⟨0,R,by omega,rfl,Lib.hid (by simp),HB6,HO6,HR6,HN6⟩
   case round =>
    clear HB6 HO6 HR6 HN6
    obtain ⟨m,S,hm,rfl,HE2,HB,HO,HRS,HN⟩:=hrel
    obtain ⟨wr2,rfl⟩:∃ V,V=wr:=⟨_,rfl⟩
    obtain ⟨oo,oc,rfl⟩:=own_form HO.out
    have hSl:S.length≤R.length+12:=by
     have:=congrArg List.length HE2.out
     rw [List.length_map,List.length_append,List.length_map,List.length_map,List.length_map] at this
     have:=List.length_take_le m NS
     omega
    by_cases hlt2:m < NS.length
    ·obtain ⟨b2,o2,rfl,p0,hc2,hm2,hb2⟩:=own_text HN.out hlt2 rfl
     have HF2:=Lib.hid (map_snocT (f:=fun n=>(⟨x,n⟩:Rl)) hlt2)
     generalize NS[m]=y at *
     have HLr:=Lib.hid (HLt.out.below HB.out)
     have HHr:=Lib.hid (HHt.out.below HB.out)
     have HTBr:=Lib.hid ((HTB.out.below HT.out.low).below HB.out)
     -- the row begins
     obtain ⟨W0,hW0⟩:∃ V,V=wr2.alloc (.cells #[.string x,.string y,.slice none 0 0,.slice none 0 0,.bool false,.int .i64 0] 40):=⟨_,rfl⟩
     obtain ⟨G,hG⟩:∃ G,G=wr2.heap.size:=⟨_,rfl⟩
     have hb0:Below wr2.heap.size wr2 W0:=by rw [hW0];exact (Below.refl _ _).alloc (Nat.le_refl _) _
     have HG0:=Lib.hid (show Blk W0 G #[.string x,.string y,.slice none 0 0,.slice none 0 0,.bool false,.int .i64 0] by rw [hW0,hG];exact Blk.new _ _ _)
     obtain ⟨ba,bb,htb⟩:=(HLr.out.below hb0).tbl
     have RO:=Lib.hid (table_Role htb ⟨x,y⟩)
     have HB0:=Lib.hid hb0
     have HGe:=Lib.hid hG
     clear hb0 htb
     go_wp2_with fail
     rw [← hW0,← hG]
     clear hW0 hG
     obtain ⟨cg,fg,zg⟩:=HG0.out
     refine RO.out.mono ?_
     rintro e w7 ⟨rfl,hb7⟩
     have HG7:=Lib.hid (HG0.out.below hb7)
     have HB7:=Lib.hid (HB0.out.trans (hb7.mono HB0.out.size))
     clear hb7 RO HB0 HG0 cg fg zg
     obtain ⟨F5,V0,g0,hmd⟩:=(HLr.out.below HB7.out).mod
     have ML:=Lib.hid (model_Members hmd (HTBr.out.below HB7.out) (roleN PS NS ⟨x,y⟩))
     have EL1:=Lib.hid (EL.out ⟨x,y⟩)
     have LR1:=Lib.hid (show ∀ j (hj:j < (colsI fs (roleN PS NS ⟨x,y⟩)).length),(colsI fs (roleN PS NS ⟨x,y⟩))[j] < 64 from fun j hj=>colsI_get hj)
     have hcl:=colsI_len fs (roleN PS NS ⟨x,y⟩)
     clear hmd
     go_wp2_with fail
     obtain ⟨cs,hcs⟩:∃ cs,cs=colsI fs (roleN PS NS ⟨x,y⟩):=⟨_,rfl⟩
     rw [← hcs] at ML EL1 hcl
     have LR1:=Lib.hid (show ∀ j (hj:j < cs.length),cs[j] < 64 by rw [hcs];exact LR1.out)
     clear hcs
     refine ML.out.mono ?_
     rintro e w8 ⟨v8,rfl,ho8,hb8⟩
     obtain ⟨ea,ec,rfl⟩:=own_form ho8
     have HG8:=Lib.hid (HG7.out.below hb8)
     have HB8:=Lib.hid (HB7.out.trans (hb8.mono HB7.out.size))
     have HC8:=Lib.hid (own_mono ho8 (show G+1≤w7.heap.size from HG7.out.2.2))
     clear hb8 ho8 ML HB7 HG7
     have hGw:G < w8.heap.size:=HG8.out.2.2
     go_wp2_with fail
     go_loopw [59] (fun i wr3 => ∃ (j:Nat) (lv:Value) (ys:List ByteArray),j≤cs.length∧i=.int .i64 j∧Hid (ys=whoN PS (cs.take j))∧Hid (Kp1 G w8 wr3)∧Hid (Blk wr3 G #[.string x,.string y,lv,.slice none 0 0,.bool false,.int .i64 0])∧Hid (wr3.ownsRow w8.heap.size 9 1 lv ys.length (strs ys))) (fun i _=>cs.length - (intOf i).toNat)
     case atStart=>exact ⟨0,.slice none 0 0,[],by omega,rfl,Lib.hid rfl,Lib.hid (Kp.refl _ _),HG8,Lib.hid (World.ownsRow_nil _ _ _ _)⟩
     case round =>
      clear HG8
      obtain ⟨j,lv,ys,hj,rfl,HY,HK,HGb,HLv⟩:=hrel
      obtain ⟨wr3,rfl⟩:∃ V,V=wr:=⟨_,rfl⟩
      obtain ⟨la,lc,rfl⟩:=own_form HLv.out
      have hyl:ys.length≤64:=by rw [HY.out];unfold whoN;rw [List.length_map];have:=List.length_take_le j cs;omega
      have hb3:Below wr2.heap.size wr2 wr3:=by rw [← HGe.out];rw [← HGe.out] at HB8;exact HB8.out.trans (HK.out.below (by omega))
      have HB3:=Lib.hid hb3
      clear hb3
      by_cases hlt3:j < cs.length
      ·obtain ⟨b3,o3,rfl,p1,hc3,hm3,hb3⟩:=own_cell (HK.out.own HC8.out (fun g hg e=>by have:=(HC8.out.lt g hg).1;omega)) (ints_get hlt3)
       have hc64:=LR1.out j hlt3
       have HYS:=Lib.hid (who_snoc (A:=PS) hlt3)
       generalize cs[j]=c at *
       generalize hz:atB PS (c:Int)=z at *
       have HZ:=Lib.hid hz
       clear hz
       obtain ⟨cg,fg,zg⟩:=HGb.out
       go_wp2_with fail
       refine wp_region_last (S:=(fun W => ∀ o,W.cell? ⟨G,o,none⟩=(#[.string x,.string y,.slice la ys.length lc,.slice none 0 0,.bool false,.int .i64 0]:Array Value)[o]?)) 9 (by kernel_rfl) (HGb.out.below (below_drew (Below.refl _ wr3))).1 (fun hHeld=>?_)
       have hd:=below_drew (Below.refl wr3.heap.size wr3)
       have HGb:=Lib.hid (HGb.out.below hd)
       have HK:=Lib.hid (HK.out.later hd)
       have HB3:=Lib.hid (HB3.out.trans (hd.mono HB3.out.size))
       have HLv:=Lib.hid (own_below HLv.out hd)
       obtain ⟨W3,hW3⟩:∃ V,V=wr3.drew:=⟨_,rfl⟩
       rw [← hW3] at HGb HK HB3 HLv hHeld ⊢
       clear hd hW3 cg fg zg p1 hb3
       obtain ⟨ba,bb,htb⟩:=(HLr.out.below HB3.out).tbl
       (refine lyes 0 ?_);(refine lyes 1 ?_);(refine lyes 2 ?_);(refine lyes 4 ?_);(try simp only [Act.put,List.setIfInBounds_toArray,List.set])
       (refine last_call 3 rfl (by kernel_rfl) (fun K hK=>?_);go_simp)
       go_at_call 53;refine (table_Prins htb).mono ?_;rintro e wz3 ⟨rfl,rfl⟩
       (refine hK.out _ _ (HGb.out.1) (fun hHeld=>?_);clear hK K;(try simp only [Act.put,List.setIfInBounds_toArray,List.set]))
       (refine last_call 5 rfl (by kernel_rfl) (fun K hK=>?_);go_simp)
       go_at_call 74;refine (tab_At ba PS (c:Int) _ htb.ta (by omega)).mono ?_;rintro e wz5 ⟨rfl,rfl⟩;rw [HZ.out]
       (refine hK.out _ _ (HGb.out.1) (fun hHeld=>?_);clear hK K;(try simp only [Act.put,List.setIfInBounds_toArray,List.set]))
       (refine last_call 6 rfl (by kernel_rfl) (fun K hK=>?_);go_simp)
       obtain ⟨wn,hwn⟩:∃ V,V=wz5.alloc (.cells #[.string z] 9):=⟨_,rfl⟩
       obtain ⟨bn,hbn⟩:∃ b,b=wz5.heap.size:=⟨_,rfl⟩
       rw [← hwn,← hbn]
       have hbq:Below wz5.heap.size wz5 wn:=by rw [hwn];exact (Below.refl _ _).alloc (Nat.le_refl _) _
       have HN1:=Lib.hid (show Sl wn 1 (.slice (some ⟨bn,0,none⟩) 1 1) 1 [.string z] by rw [hwn];exact Sl.new wz5 [.string z] 9 1 1 bn hbn rfl (by simp [maxLen]))
       have HGb:=Lib.hid (HGb.out.below hbq)
       have HK:=Lib.hid (HK.out.later hbq)
       have HB3:=Lib.hid (HB3.out.trans (hbq.mono HB3.out.size))
       have HLv:=Lib.hid (own_below HLv.out hbq)
       clear hbq hwn hbn htb
       (refine hK.out _ _ (HGb.out.1) (fun hHeld=>?_);clear hK K;(try simp only [Act.put,List.setIfInBounds_toArray,List.set]))
       refine last_call 7 rfl (by kernel_rfl) (fun K hK=>?_)
       refine step_row rfl _ _ 38 rfl w8.heap.size 9 sinf _ 1 16 Tryz.underlying38 HSI.out hs0 hs1 hs2 (by decide) rfl (by decide) _ ys.length _ rfl HLv.out _ 1 _ rfl HN1.out.a (str1 _) (by omega) HK.out.size ?_
       intro a5 c5 wc hown5 hg5
       have HGb:=Lib.hid (HGb.out.grown hg5 (fun e=>by have:=(HLv.out.lt G e.symm).1;omega))
       have HB3:=Lib.hid (below_own HB3.out HLv.out hg5 HB3.out.size (by have:=HGe.out;omega))
       have HK:=Lib.hid (HK.out.grown HLv.out hg5 (Nat.le_refl _))
       have HLv:=Lib.hid hown5
       clear hg5 hown5 HN1
       (refine hK.out _ _ (HGb.out.1) (fun hHeld=>?_);clear hK K;(try simp only [Act.put,List.setIfInBounds_toArray,List.set]))
       (refine lyes 8 ?_);(try simp only [Act.put,List.setIfInBounds_toArray,List.set])
       obtain ⟨cg,fg,zg⟩:=HGb.out
       (refine last_end 9 rfl (by kernel_rfl) (by kernel_rfl) (fun K hK=>?_);go_simp)
       clear cg fg zg
       have HGb:=Lib.hid (show Blk (wc.setCell ⟨G,2,none⟩ (.slice a5 (ys.length+1) c5)) G #[.string x,.string y,.slice a5 (ys.length+1) c5,.slice none 0 0,.bool false,.int .i64 0] from HGb.out.put (o:=2) (by simp))
       have HK:=Lib.hid (HK.out.set (o:=2) (v:=.slice a5 (ys.length+1) c5))
       have HLv:=Lib.hid (show (wc.setCell ⟨G,2,none⟩ (.slice a5 (ys.length+1) c5)).ownsRow w8.heap.size 9 1 (.slice a5 (ys.length+1) c5) (ys++[z]).length (strs (ys++[z])) by
        rw [List.length_append,strs_snoc]
        exact (Kp.set (X:=fun b=>b=G) rfl).own HLv.out (fun g hg e=>by have:=(HLv.out.lt g hg).1;omega))
       obtain ⟨wd,hwd⟩:∃ V,V=wc.setCell ⟨G,2,none⟩ (.slice a5 (ys.length+1) c5):=⟨_,rfl⟩
       rw [← hwd] at HGb HK HLv ⊢
       clear hwd HB3
       refine hK.out _ _ ?_
       clear hK K
       go_wp2_with fail
       exact ⟨⟨j+1,.slice a5 (ys.length+1) c5,ys++[z],by omega,by go_num,Lib.hid (by rw [HYS.out,HY.out]),HK,HGb,HLv⟩,by simp [intOf];omega⟩
      ·have HLO:=Lib.hid (show ys=membersP ps ⟨x,y⟩ by rw [HY.out,List.take_of_length_le (show cs.length≤j by omega),EL1.out])
       have HLv:=Lib.hid (own_mono HLv.out (show G+1≤w8.heap.size from hGw))
       clear HY HK EL1 LR1 HC8 hcl HB8
       obtain ⟨cg,fg,zg⟩:=HGb.out
       obtain ⟨ba,bb,htb⟩:=(HHr.out.below HB3.out).tbl
       have RO:=Lib.hid (table_Role htb ⟨x,y⟩)
       clear htb
       go_wp2_with fail
       refine RO.out.mono ?_
       rintro e w9 ⟨rfl,hb9⟩
       have HG9:=Lib.hid (HGb.out.below hb9)
       have HB9:=Lib.hid (HB3.out.trans (hb9.mono HB3.out.size))
       have HLv:=Lib.hid (own_below HLv.out hb9)
       clear hb9 RO HB3 HGb cg fg zg
       obtain ⟨F5,V0,g0,hmd⟩:=(HHr.out.below HB9.out).mod
       have ML:=Lib.hid (model_Members hmd (HTBr.out.below HB9.out) (roleN PX NS ⟨x,y⟩))
       have EH1:=Lib.hid (EH.out ⟨x,y⟩)
       have LR1:=Lib.hid (show ∀ j (hj:j < (colsI fs' (roleN PX NS ⟨x,y⟩)).length),(colsI fs' (roleN PX NS ⟨x,y⟩))[j] < 64 from fun j hj=>colsI_get hj)
       have hcl:=colsI_len fs' (roleN PX NS ⟨x,y⟩)
       clear hmd
       go_wp2_with fail
       obtain ⟨ds,hds⟩:∃ cs,cs=colsI fs' (roleN PX NS ⟨x,y⟩):=⟨_,rfl⟩
       rw [← hds] at ML EH1 hcl
       have LR1:=Lib.hid (show ∀ j (hj:j < ds.length),ds[j] < 64 by rw [hds];exact LR1.out)
       clear hds
       refine ML.out.mono ?_
       rintro e w10 ⟨v10,rfl,ho10,hb10⟩
       obtain ⟨ea,ec,rfl⟩:=own_form ho10
       have HG10:=Lib.hid (HG9.out.below hb10)
       have HB10:=Lib.hid (HB9.out.trans (hb10.mono HB9.out.size))
       have HC10:=Lib.hid (own_mono ho10 (show G+1≤w9.heap.size from HG9.out.2.2))
       have HLv10:=Lib.hid (own_below HLv.out hb10)
       clear hb10 ho10 ML HB9 HG9 HLv
       have hGw:G < w10.heap.size:=HG10.out.2.2
       obtain ⟨A,hA⟩:∃ A,A=whoN PX ds:=⟨_,rfl⟩
       have hAl:A.length=ds.length:=by rw [hA];unfold whoN;rw [List.length_map]
       have HA:=Lib.hid hA
       rw [← hA] at EH1
       clear hA
       go_wp2_with fail
       go_loopw [80] (fun i wr4 => ∃ (j:Nat) (hv:Value) (zs:List ByteArray) (op:Bool),j≤ds.length∧i=.int .i64 j∧Hid (zs=(A.take j).filter (fun y => !decide (y=X)))∧Hid (op=(A.take j).any (fun y=>decide (y=X)))∧Hid (Kp1 G w10 wr4)∧Hid (Blk wr4 G #[.string x,.string y,.slice la ys.length lc,hv,.bool op,.int .i64 0])∧Hid (wr4.ownsRow w10.heap.size 9 1 hv zs.length (strs zs))) (fun i _=>ds.length - (intOf i).toNat)
       case atStart=>exact ⟨0,.slice none 0 0,[],false,by omega,rfl,Lib.hid rfl,Lib.hid rfl,Lib.hid (Kp.refl _ _),HG10,Lib.hid (World.ownsRow_nil _ _ _ _)⟩
       case round =>
        clear HG10
        obtain ⟨j,hv,zs,op,hj,rfl,HZS,HOP,HK,HGb,HHv⟩:=hrel
        obtain ⟨wr4,rfl⟩:∃ V,V=wr:=⟨_,rfl⟩
        obtain ⟨ha,hc,rfl⟩:=own_form HHv.out
        have hzl:zs.length≤64:=by rw [HZS.out];have h1:=List.length_filter_le (fun y => !decide (y=X)) (A.take j);have:=List.length_take_le j A;omega
        have hb4:Below wr2.heap.size wr2 wr4:=by rw [← HGe.out];rw [← HGe.out] at HB10;exact HB10.out.trans (HK.out.below (by omega))
        have HB4:=Lib.hid hb4
        clear hb4
        by_cases hlt4:j < ds.length
        ·obtain ⟨b3,o3,rfl,p1,hc3,hm3,hb3⟩:=own_cell (HK.out.own HC10.out (fun g hg e=>by have:=(HC10.out.lt g hg).1;omega)) (ints_get hlt4)
         have hc64:=LR1.out j hlt4
         have hjA:j < A.length:=by omega
         have hz:atB PX ((ds[j]:Nat):Int)=A[j]:=by simp only [HA.out];unfold whoN;rw [List.getElem_map]
         have TF:=Lib.hid (take_filter (p:=fun y => !decide (y=X)) hjA)
         have TA:=Lib.hid (take_any (p:=fun y=>decide (y=X)) hjA)
         generalize A[j]'hjA=z at *
         generalize ds[j]=c at *
         obtain ⟨ba,bb,htb⟩:=(HHr.out.below HB4.out).tbl
         have PRI:=Lib.hid (table_Prins htb)
         have AT:=Lib.hid (tab_At ba PX (c:Int) _ htb.ta (by omega))
         rw [hz] at AT
         clear hz htb
         obtain ⟨cg,fg,zg⟩:=HGb.out
         go_wp2_with fail
         refine PRI.out.mono ?_
         rintro e wz3 ⟨rfl,rfl⟩
         go_wp2_with fail
         refine AT.out.mono ?_
         rintro e wz5 ⟨rfl,rfl⟩
         clear PRI AT p1 hb3
         by_cases hzX:z=X
         ·have dz:(z.toList == X.toList)=true:=by rw [beq_str,decide_eq_true hzX]
          have TF:=Lib.hid (show (A.take (j+1)).filter (fun y => !decide (y=X))=(A.take j).filter (fun y => !decide (y=X)) by rw [TF.out,decide_eq_true hzX];simp)
          have TA:=Lib.hid (show (A.take (j+1)).any (fun y=>decide (y=X))=true by rw [TA.out,decide_eq_true hzX,Bool.or_true])
          clear hzX
          go_wp2_with fail
          have HGb:=Lib.hid (show Blk (wz5.setCell ⟨G,4,none⟩ (.bool true)) G #[.string x,.string y,.slice la ys.length lc,.slice ha zs.length hc,.bool true,.int .i64 0] from HGb.out.put (o:=4) (by simp))
          have HK5:=Lib.hid (HK.out.set (o:=4) (v:=.bool true))
          have HHv:=Lib.hid ((Kp.set (X:=fun b=>b=G) (w:=wz5) (o:=4) (v:=.bool true) rfl).own HHv.out (fun g hg e=>by have:=(HHv.out.lt g hg).1;omega))
          exact ⟨⟨j+1,.slice ha zs.length hc,zs,true,by omega,by go_num,Lib.hid (by rw [TF.out,HZS.out]),Lib.hid TA.out.symm,HK5,HGb,HHv⟩,by simp [intOf];omega⟩
         ·have dz:(z.toList == X.toList)=false:=by rw [beq_str,decide_eq_false hzX]
          have TF:=Lib.hid (show (A.take (j+1)).filter (fun y => !decide (y=X))=(A.take j).filter (fun y => !decide (y=X))++[z] by rw [TF.out,decide_eq_false hzX];simp)
          have TA:=Lib.hid (show (A.take (j+1)).any (fun y=>decide (y=X))=(A.take j).any (fun y=>decide (y=X)) by rw [TA.out,decide_eq_false hzX,Bool.or_false])
          clear hzX
          have hown:=HHv.out
          have hks:=HK.out.size
          go_wp2_with (at_builtin;refine halt_ ?_)
          unfold Halt_
          refine app_own Tryz.underlying38 str_info rfl (by decide) (by decide) rfl _ _ rfl w10.heap.size rfl (hown.alloc _) [.string z] rfl (heap_new1 _ _) rfl (str1 _) ?_ ?_ ?_
          ·omega
          ·simp;omega
          intro a' cap' w12 hown' hgrow
          have HGb:=Lib.hid ((HGb.out.alloc _).grown hgrow (fun e=>by have:=(HHv.out.lt G e.symm).1;omega))
          have HK:=Lib.hid ((HK.out.later ((Below.refl wz5.heap.size wz5).alloc (Nat.le_refl _) (.cells #[.string z] 9))).grown (hown.alloc _) hgrow (Nat.le_refl _))
          clear hown hgrow hks cg fg zg
          obtain ⟨cg,fg,zg⟩:=HGb.out
          go_wp2_with fail
          have HGb:=Lib.hid (show Blk (w12.setCell ⟨G,3,none⟩ (.slice a' (zs.length+1) cap')) G #[.string x,.string y,.slice la ys.length lc,.slice a' (zs.length+1) cap',.bool op,.int .i64 0] from HGb.out.put (o:=3) (by simp))
          have HK5:=Lib.hid (HK.out.set (o:=3) (v:=.slice a' (zs.length+1) cap'))
          have HHv:=Lib.hid (show (w12.setCell ⟨G,3,none⟩ (.slice a' (zs.length+1) cap')).ownsRow w10.heap.size 9 1 (.slice a' (zs.length+1) cap') (zs++[z]).length (strs (zs++[z])) by
           rw [List.length_append,strs_snoc]
           exact (Kp.set (X:=fun b=>b=G) rfl).own hown' (fun g hg e=>by have:=(hown'.lt g hg).1;omega))
          exact ⟨⟨j+1,.slice a' (zs.length+1) cap',zs++[z],op,by omega,by go_num,Lib.hid (by rw [TF.out,HZS.out]),Lib.hid (by rw [TA.out,HOP.out]),HK5,HGb,HHv⟩,by simp [intOf];omega⟩
        ·have hjA:A.length≤j:=by omega
         have HHI:=Lib.hid (show zs=(membersP es ⟨x,y⟩).filter (fun y => !decide (y=X)) by rw [HZS.out,List.take_of_length_le hjA,EH1.out])
         have HOPX:=Lib.hid (show op=(membersP es ⟨x,y⟩).any (fun y=>decide (y=X)) by rw [HOP.out,List.take_of_length_le hjA,EH1.out])
         have HLv4:=Lib.hid (HK.out.own HLv10.out (fun g hg e=>by have:=(HLv10.out.lt g hg).1;omega))
         clear HZS HOP HK EH1 LR1 HC10 HLv10 hcl HB10 HA hjA
         obtain ⟨cg,fg,zg⟩:=HGb.out
         go_wp2_with fail
         refine (mat_kind ⟨x,y⟩ (.slice la ys.length lc) (.slice ha zs.length hc) ys zs op 0 wr4 (Sl.of_own HLv4.out).a (Sl.of_own HHv.out).a).mono ?_
         rintro e w11 ⟨rfl,hb11⟩
         have HGb:=Lib.hid (HGb.out.below hb11)
         have HB11:=Lib.hid (HB4.out.trans (hb11.mono HB4.out.size))
         have HLv:=Lib.hid (own_below HLv4.out hb11)
         have HHv:=Lib.hid (own_below HHv.out hb11)
         clear hb11 HB4 HLv4 cg fg zg
         generalize hkk:kindM op ys zs=kk at *
         have HKK:=Lib.hid hkk
         clear hkk
         obtain ⟨cg,fg,zg⟩:=HGb.out
         have HG12:=Lib.hid (show Blk (w11.setCell ⟨G,5,none⟩ (.int .i64 kk)) G #[.string x,.string y,.slice la ys.length lc,.slice ha zs.length hc,.bool op,.int .i64 kk] from HGb.out.put (o:=5) (by simp))
         have HLv:=Lib.hid ((Kp.set (X:=fun b=>b=G) (w:=w11) (o:=5) (v:=.int .i64 kk) rfl).own HLv.out (fun g hg e=>by have:=(HLv.out.lt g hg).1;omega))
         have HHv:=Lib.hid ((Kp.set (X:=fun b=>b=G) (w:=w11) (o:=5) (v:=.int .i64 kk) rfl).own HHv.out (fun g hg e=>by have:=(HHv.out.lt g hg).1;omega))
         have HB12:=Lib.hid (below_put (o:=5) (v:=.int .i64 kk) HB11.out (show wr2.heap.size≤G by have:=HGe.out;omega))
         go_upto_region 27 with fail
         obtain ⟨w12,hw12⟩:∃ V,V=w11.setCell ⟨G,5,none⟩ (.int .i64 kk):=⟨_,rfl⟩
         rw [← hw12] at HG12 HLv HHv HB12 ⊢
         clear hw12 HGb HB11 cg fg zg
         have HO12:=Lib.hid (own_below HO.out HB12.out)
         have HRS12:=Lib.hid (HRS.out.below HB12.out)
         have HN12:=Lib.hid (own_below HN.out HB12.out)
         obtain ⟨cg,fg,zg⟩:=HG12.out
         go_wp2_with (at_builtin;refine halt_ ?_)
         unfold Halt_
         refine app_own Tryz.underlying31 mr_info rfl (by decide) (by decide) rfl _ _ rfl w5.heap.size rfl (HO12.out.alloc _) [.string x,.string y,.slice la ys.length lc,.slice ha zs.length hc,.bool op,.int .i64 kk] rfl (heap_new1 _ _) rfl (mv_one (x:=⟨⟨⟨x,y⟩,ys,zs,op,kk⟩,.slice la ys.length lc,.slice ha zs.length hc⟩) rfl rfl) ?_ ?_ ?_
         ·omega
         ·have h1:=HB12.out.size;have h2:=HB.out.size;simp;omega
         intro a' cap' w13 hown' hgrow
         have HL13:=Lib.hid (own_far (HLv.out.alloc _) (HO12.out.alloc _) hgrow (by decide))
         have HH13:=Lib.hid (own_far (HHv.out.alloc _) (HO12.out.alloc _) hgrow (by decide))
         have HN13:=Lib.hid (own_far (HN12.out.alloc _) (HO12.out.alloc _) hgrow (by decide))
         have HR13:=Lib.hid ((HRS12.out.below ((Below.refl _ _).alloc (Nat.le_refl _) (.cells #[.string x,.string y,.slice la ys.length lc,.slice ha zs.length hc,.bool op,.int .i64 kk] 40))).far (HO12.out.alloc _) hgrow)
         have hbw:Below w5.heap.size w5 (w12.alloc (.cells #[.string x,.string y,.slice la ys.length lc,.slice ha zs.length hc,.bool op,.int .i64 kk] 40)):=(HB.out.trans (HB12.out.mono HB.out.size)).alloc (HB.out.trans (HB12.out.mono HB.out.size)).size _
         have HB13:=Lib.hid (below_own hbw (HO12.out.alloc _) hgrow hbw.size (Nat.le_refl _))
         have HO13:=Lib.hid (show w13.ownsRow w5.heap.size 40 6 (.slice a' (S.length+1) cap') (S++[(⟨⟨⟨x,y⟩,ys,zs,op,kk⟩,.slice la ys.length lc,.slice ha zs.length hc⟩:MV)]).length ((S++[(⟨⟨⟨x,y⟩,ys,zs,op,kk⟩,.slice la ys.length lc,.slice ha zs.length hc⟩:MV)]).flatMap MV.cells) by rw [List.length_append,List.flatMap_append];exact hown')
         have HRR:=Lib.hid (HR13.out.snoc (x:=⟨⟨⟨x,y⟩,ys,zs,op,kk⟩,.slice la ys.length lc,.slice ha zs.length hc⟩) (own_mono HL13.out (Nat.zero_le _)) (own_mono HH13.out (Nat.zero_le _)))
         have HROW:=Lib.hid (show (⟨⟨x,y⟩,ys,zs,op,kk⟩:MR)=rowM ps es X ⟨x,y⟩ by unfold rowM;rw [← HLO.out,← HHI.out,← HOPX.out,HKK.out])
         clear hown' hgrow hbw cg fg zg
         go_wp2_with fail
         exact ⟨⟨m+1,S++[⟨⟨⟨x,y⟩,ys,zs,op,kk⟩,.slice la ys.length lc,.slice ha zs.length hc⟩],by omega,by go_num,Lib.hid (by rw [HF2.out,List.map_append,List.map_append,HE2.out,List.append_assoc];simp [HROW.out]),HB13,HO13,HRR,HN13⟩,by simp [intOf];omega⟩
    ·have HES2:=Lib.hid (show S.map MV.s=(allR (PS.take (k+1)) NS).map (rowM ps es X) by rw [HE2.out,HE.out,HF.out,List.map_append,List.take_of_length_le (show NS.length≤m by omega)])
     go_wp2_with fail
     exact ⟨⟨k+1,S,by omega,by go_num,HES2,HB,HO,HRS⟩,by simp [intOf];omega⟩
  ·have HES:=Lib.hid (show R.map MV.s=(allR PS NS).map (rowM ps es X) by rw [HE.out,List.take_of_length_le (show PS.length≤k by omega)])
   have HS:=Lib.hid (Sl.of_own HO.out)
   have HTr:=Lib.hid (HT.out.later HB.out)
   go_wp2
   go_ret2
   exact ⟨_,R,rfl,HS.out,HR.out,HES.out,HTr.out.low⟩
end
end
section
open Go.RowKit Go.Shelf

set_option maxRecDepth 100000 in
set_option maxHeartbeats 2000000 in
theorem ref11_MembersO (va:Value) (l:List Pr) (r:Rl) (w:World) (ha:SlA w 3 va l.length (l.flatMap pcells)) (hn:l.length≤10000) :
  Calls Tryz.prog 83 #[va,rv r] w fun e w' => ∃ v,e=.returned v∧w'.ownsRow w.heap.size 9 1 v (membersP l r).length (strs (membersP l r))∧Below w.heap.size w w':=by
 have hEq:=role_eql
 have HA:=Lib.hid ha
 have hmax:=ha.max
 obtain ⟨a0,c0,rfl⟩:=ha.form
 clear ha
 obtain ⟨h1,h2⟩:=r
 go_enter Tryz.func83,Tryz.ntmps83
 go_wp2_with fail
 go_loopw [5,10] (fun vo i wr => ∃ (k:Nat) (ms:List ByteArray),k≤l.length∧i=.int .i64 k∧Hid (ms=membersP (l.take k) ⟨h1,h2⟩)∧Hid (Below w.heap.size w wr)∧Blk wr w.heap.size #[.string h1,.string h2]∧Hid (wr.ownsRow w.heap.size 9 1 vo ms.length (strs ms))) (fun _ i _=>l.length - (intOf i).toNat)
 case atStart=>exact ⟨0,[],by omega,rfl,Lib.hid rfl,Lib.hid ((Below.refl _ _).alloc (Nat.le_refl _) _),Blk.new _ _ _,Lib.hid (World.ownsRow_nil _ _ _ _)⟩
 case round =>
  obtain ⟨k,ms,hk,rfl,HE,HB,hblk,HO⟩:=hrel
  obtain ⟨oo,oc,rfl⟩:=own_form HO.out
  have HBK:=Lib.hid hblk
  obtain ⟨cs,fs,zs⟩:=hblk
  by_cases hlt:k < l.length
  ·obtain ⟨b1,o1,c1,he1,hc1,hm1,hb1,hx1⟩:=HA.out.pos (by omega)
   simp only [Value.slice.injEq,true_and] at he1
   obtain ⟨rfl,rfl⟩:=he1
   obtain ⟨p0,p1,p2⟩:=pr_cell (w:=wr) (fun j u hu=>(HB.out.cell (p:=⟨b1,o1+j,none⟩) hb1).trans (hx1 j u hu)) k hlt
   have hbr:b1 < wr.heap.size:=Nat.lt_of_lt_of_le hb1 HB.out.size
   have HS:=Lib.hid (membersP_snoc (r:=⟨h1,h2⟩) hlt)
   have hml:ms.length≤10000:=by have h3:=membersP_len (l.take k) ⟨h1,h2⟩;rw [← HE.out] at h3;have:=List.length_take_le k l;omega
   clear hx1
   generalize l[k]=p at *
   obtain ⟨⟨y1,y2⟩,y3⟩:=p
   obtain ⟨wa,hwa⟩:∃ V,V=wr.alloc (.cells #[.string y1,.string y2,.string y3] 78):=⟨_,rfl⟩
   have hba:Below wr.heap.size wr wa:=by rw [hwa];exact (Below.refl _ _).alloc (Nat.le_refl _) _
   cases he:eqRl ⟨y1,y2⟩ ⟨h1,h2⟩ with
   | true =>
    have HE2:=Lib.hid (show insSB ms y3=membersP (l.take (k+1)) ⟨h1,h2⟩ by have:=HS.out;rw [if_pos he,← HE.out] at this;exact this.symm)
    have PU:=Lib.hid (ref1_PutO (.slice oo ms.length oc) ms y3 wa (Sl.of_own (own_below HO.out hba)).a (by omega))
    have HOa:=Lib.hid (own_below HO.out hba)
    have hwz:w.heap.size≤wa.heap.size:=Nat.le_trans HB.out.size hba.size
    clear HS
    go_wp2_with fail
    rw [← hwa]
    clear hwa
    refine PU.out.mono ?_
    rintro e w2 ⟨v2,rfl,hs2,hb2⟩
    have hbb:Below wr.heap.size wr w2:=hba.trans (hb2.mono hba.size)
    have HO2:=Lib.hid (show w2.ownsRow w.heap.size 9 1 v2 (insSB ms y3).length (strs (insSB ms y3)) from hs2.elim (fun ⟨e1,e2⟩=>by rw [e1,e2];exact own_below HOa.out hb2) (fun h=>own_mono h hwz))
    obtain ⟨va2,vc2,rfl⟩:=own_form HO2.out
    clear HOa hwz
    have HBK2:=Lib.hid (HBK.out.below hbb)
    have HB2:=Lib.hid (HB.out.trans (hbb.mono HB.out.size))
    clear hs2 hb2 hbb hba PU cs fs zs p0 p1 p2
    go_wp2_with fail
    exact ⟨⟨k+1,insSB ms y3,by omega,by go_num,HE2,HB2,HBK2.out,HO2⟩,by simp [intOf];omega⟩
   | false =>
    have HE2:=Lib.hid (show ms=membersP (l.take (k+1)) ⟨h1,h2⟩ by have:=HS.out;rw [if_neg (by rw [he];exact Bool.false_ne_true),← HE.out] at this;exact this.symm)
    clear HS
    have HO2:=Lib.hid (own_below HO.out hba)
    have HBK2:=Lib.hid (HBK.out.below hba)
    have HB2:=Lib.hid (HB.out.trans (hba.mono HB.out.size))
    rw [hwa] at HO2 HBK2 HB2
    clear hwa hba
    go_wp2_with fail
    exact ⟨⟨k+1,ms,by omega,by go_num,HE2,HB2,HBK2.out,HO2⟩,by simp [intOf];omega⟩
  ·have HRS:=Lib.hid (show ms=membersP l ⟨h1,h2⟩ by rw [HE.out,List.take_of_length_le (show l.length≤k by omega)])
   go_wp2
   go_ret
   exact ⟨_,rfl,by rw [← HRS.out];exact HO.out,HB.out⟩
end
end Go.Proofs.YtilgbodgmkmjjaaGreatDoor
