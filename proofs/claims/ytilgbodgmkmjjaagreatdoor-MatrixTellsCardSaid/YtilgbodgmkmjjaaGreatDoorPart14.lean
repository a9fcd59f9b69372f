/- Parts: SemSt SemAdd SemAll SemLookL RowsTwo SemPut -/
import Derived.Test.YtilgbodgmkmjjaaGreatDoorPart13
import Derived.Deep.MidRow
import Derived.ArgAppend
import Derived.Test.YtilgbodgmkmjjaaGreatDoorPart6
namespace Go.Proofs.YtilgbodgmkmjjaaGreatDoor
section
open Go.RowKit Go.Shelf

def qcells (q:List (Nat × Nat)):List Value:=q.flatMap (fun f=>[.int .i64 (f.1:Int),.int .i64 (f.2:Int)])
theorem qcells_len (q:List (Nat × Nat)):(qcells q).length=q.length * 2:=flat_len (fun f:Nat × Nat=>[Value.int .i64 (f.1:Int),.int .i64 (f.2:Int)]) 2 (fun _=>rfl) q
def QAt (w:World) (C:Nat) (v:Value) (q:List (Nat × Nat)):Prop :=
 (v=.slice none 0 0∧q=[])∨∃ g off cap,v=.slice (some ⟨g,off,none⟩) q.length cap∧C≤g∧g < w.heap.size∧q.length≤cap∧cap≤maxLen∧w.rangeAt g off (qcells q)∧w.there g off (cap * 2)
theorem range_kp {w w':World} {g o:Nat} {cs:List Value} (h:w.rangeAt g o cs) (e:w'.heap[g]? = w.heap[g]?):w'.rangeAt g o cs:=fun j v hv=>(World.cell?_of_block (a:=⟨g,o+j,none⟩) e).trans (h j v hv)
theorem there_kp {w w':World} {g o n:Nat} (h:w.there g o n) (e:w'.heap[g]? = w.heap[g]?):w'.there g o n:=fun j hj =>
 ⟨by rw [World.cell?_of_block (a:=⟨g,o+j,none⟩) e];exact (h j hj).1,by rw [World.frozen?_of_block (a:=⟨g,o+j,none⟩) e];exact (h j hj).2⟩
theorem QAt.kp {X:Nat→Prop} {w w':World} {C:Nat} {v:Value} {q:List (Nat × Nat)} (h:QAt w C v q) (k:Kp X w w') (hx:∀ g,v.ownBlock=some g→¬ X g):QAt w' C v q:=by
 rcases h with h | ⟨g,off,cap,rfl,h1,h2,h3,h4,h5,h6⟩
 ·exact .inl h
 ·have e:=k.block g h2 (hx g rfl)
  exact .inr ⟨g,off,cap,rfl,h1,Nat.lt_of_lt_of_le h2 k.size,h3,h4,range_kp h5 e,there_kp h6 e⟩
theorem QAt.ge {w:World} {C:Nat} {v:Value} {q:List (Nat × Nat)} (h:QAt w C v q) {g:Nat} (hg:v.ownBlock=some g):C≤g∧g < w.heap.size:=by
 rcases h with ⟨rfl,_⟩ | ⟨g',off,cap,rfl,h1,h2,_⟩
 ·cases hg
 ·cases hg;exact ⟨h1,h2⟩
theorem QAt.form {w:World} {C:Nat} {v:Value} {q:List (Nat × Nat)} (h:QAt w C v q):∃ a cap,v=.slice a q.length cap:=by
 rcases h with ⟨rfl,rfl⟩ | ⟨g,off,cap,rfl,_⟩
 ·exact ⟨_,_,rfl⟩
 ·exact ⟨_,_,rfl⟩
theorem QAt.of_own {w:World} {C:Nat} {v:Value} {n:Nat} {q:List (Nat × Nat)} (hn:n=q.length) (h:w.ownsRow C 252 2 v n (qcells q)):QAt w C v q:=by
 subst hn
 rcases h.2 with ⟨rfl,h0⟩ | ⟨g,cap,cur,rfl,hb,hg,hnc,hm,hs,ht⟩
 ·exact .inl ⟨rfl,List.eq_nil_of_length_eq_zero h0⟩
 ·refine .inr ⟨g,0,cap,rfl,hb,(Array.getElem?_eq_some_iff.1 hg).1,hnc,hm,fun j u hu=>?_,fun j hj=>⟨?_,?_⟩⟩
  ·have:=h.cells (g:=g) rfl j u hu
   rw [Addr.add_mid] at this
   exact this
  ·rw [cell_of_row w g _ cur _ (0,0) hg,Array.getElem?_eq_getElem (by omega)];rfl
  ·simp [World.frozen?,hg]
theorem fact_info:(Tryz.prog.info? 252).map (fun i=>(i.zero,i.size,i.bytes))=some (some (.agg #[.int .i64 0,.int .i64 0]),2,16):=by kernel_rfl
theorem kp_setCells {X:Nat→Prop} (g:Nat) (hx:X g):∀ (vs:List Value) (o:Nat) (w:World),Kp X w (w.setCells g o vs)
 | [],_,_=>Kp.refl _ _
 | v :: vs,o,_=>(Kp.set (o:=o) (v:=v) hx).trans (kp_setCells g hx vs (o+1) _) (fun _ _ h=>h)
theorem app_q {w:World} {ops:Array Oper} {rest:List Oper} {o:Oper} {a:Act} {Q:Exit→Act→World→Prop}
  (hgd:o.guard=none) (s x:Operand) (ho:o.op=.call { callee:=.builtin .append,args:=#[s,x],argTypes:=#[246,246] })
  (C:Nat) {qv:Value} {q:List (Nat × Nat)} (hs:a.eval s=qv) (hq:QAt w C qv q) {g:Nat} (f1 f2:Nat) (hx:a.eval x=.slice (some ⟨g,0,none⟩) 1 1)
  (hc:w.heap[g]? = some (.cells #[.int .i64 (f1:Int),.int .i64 (f2:Int)] 252 (0,0))) (hn:q.length≤1000000) (hC:C≤w.heap.size)
  (h:∀ v' w',QAt w' C v' (q++[(f1,f2)])→Kp (fun b=>some b=qv.ownBlock) w w'→(v'.ownBlock=qv.ownBlock∨∃ b,v'.ownBlock=some b∧w.heap.size≤b)→wpList Tryz.prog ops Q rest (a.put o.dst v') w'):wpList Tryz.prog ops Q (o :: rest) a w:=by
 obtain ⟨i,hi,hz0,hz1,hz2⟩:=info_parts fact_info
 have hcc:∀ j u,[Value.int .i64 (f1:Int),.int .i64 (f2:Int)][j]? = some u→w.cell? ((⟨g,0,none⟩:Addr).add j)=some u:=by
  intro j u hu
  rw [Addr.add_mid,cell_of_row _ g _ _ _ (0,0) hc]
  simpa using hu
 have h1c:∀ u∈[Value.int .i64 (f1:Int),.int .i64 (f2:Int)],u.oneCell'=true:=by
  intro u hu;simp at hu;rcases hu with rfl | rfl <;> rfl
 have eqc:qcells (q++[(f1,f2)])=qcells q++[.int .i64 (f1:Int),.int .i64 (f2:Int)]:=by unfold qcells;rw [List.flatMap_append];rfl
 have grown:∀ v' w',w'.ownsRow w.heap.size 252 2 v' (q.length+1) (qcells q++[.int .i64 (f1:Int),.int .i64 (f2:Int)])→w.grownBy w' none→wpList Tryz.prog ops Q rest (a.put o.dst v') w':=by
  intro v' w' ho' hg'
  have ho2:w'.ownsRow C 252 2 v' (q.length+1) (qcells (q++[(f1,f2)])):=by rw [eqc];exact own_base ho' hC
  refine h v' w' (QAt.of_own (by simp) ho2) (Kp.of_grown hg' (fun b hb=>by cases hb)) (.inr ?_)
  rcases ho'.2 with ⟨rfl,h0⟩ | ⟨g',cap,cur,rfl,hb,_⟩
  ·omega
  ·exact ⟨g',rfl,hb⟩
 rcases hq with ⟨rfl,rfl⟩ | ⟨gq,off,cap,rfl,q1,q2,q3,q4,q5,q6⟩
 ·refine wpList_append_grows w hgd s x 246 ho 252 i _ 2 16 Tryz.underlying246 hi hz0 hz1 hz2 rfl (by decide) none 0 0 [] hs (fun _=>⟨rfl,rfl⟩) rfl (fun b hb=>by cases hb) ⟨g,0,none⟩ 1 1 _ hx rfl hcc h1c (by omega) (by simp [maxLen]) (by omega) ?_
  intro v' w' ho' hg'
  exact grown v' w' ho' hg'
 ·refine wpList_append_arg w hgd s x 246 ho 252 i _ 2 16 Tryz.underlying246 hi hz0 hz1 hz2 rfl (by decide) gq off q.length cap (qcells q) hs (qcells_len q) (fun j u hu=>q5 j u hu) ⟨g,0,none⟩ 1 1 [.int .i64 (f1:Int),.int .i64 (f2:Int)] hx rfl hcc h1c ?_ (by simp only [maxLen];omega) (by omega) ?_ ?_
  ·intro hr j hj
   simp only [List.length_cons,List.length_nil] at hj
   have:=q6 (q.length * 2+j) (by omega)
   rw [← Nat.add_assoc] at this
   exact this
  ·intro hr
   have hth:w.there gq (off+q.length * 2) 2:=fun j hj=>by
    have:=q6 (q.length * 2+j) (by omega)
    rw [← Nat.add_assoc] at this
    exact this
   have hsame:=World.rangeAt_setCells_same w gq (off+q.length * 2) [.int .i64 (f1:Int),.int .i64 (f2:Int)] hth
   have hold:=World.rangeAt_setCells_apart (w:=w) (b':=gq) (o':=off) q5 gq (off+q.length * 2) [.int .i64 (f1:Int),.int .i64 (f2:Int)] (.inr (.inl (by rw [qcells_len];exact Nat.le_refl _)))
   refine h _ _ (.inr ⟨gq,off,cap,by rw [List.length_append];rfl,q1,Nat.lt_of_lt_of_le q2 (kp_setCells (X:=fun _=>True) gq trivial _ _ _).size,by rw [List.length_append];exact hr,q4,?_,World.there_setCells q6 _ _ _⟩) (kp_setCells (X:=fun b=>some b=some gq) gq rfl _ _ _) (.inl rfl)
   rw [eqc]
   intro j v hv
   by_cases hj:j < (qcells q).length
   ·rw [List.getElem?_append_left hj] at hv
    exact hold j v hv
   ·rw [List.getElem?_append_right (by omega),qcells_len] at hv
    have:=hsame _ v hv
    rw [qcells_len] at hj
    rw [show off+j=off+q.length * 2+(j - q.length * 2) by omega]
    exact this
  ·intro _ v' w' ho' hg'
   exact grown v' w' ho' hg'
theorem TB.kp {X:Nat→Prop} {w w':World} (h:TB w) (k:Kp X w w') (hx:¬ X 0):TB w':=fun j hj =>
 (World.cell?_of_block (a:=⟨0,j,none⟩) (k.block _ (World.block_lt_of_cell? w _ (h j hj)) hx)).trans (h j hj)
structure MkI where
 C:Nat
 K:Nat
 M:Nat
 F:Nat
 W0:Nat
 g0:Nat
 BY:Nat
 VIA:Nat
 pr:Nat
 lk:Nat
def MkI.n (d:MkI):Nat:=d.pr * d.lk
structure MkI.ok (d:MkI):Prop where
 o0:0 < d.F
 o1:d.F < d.W0
 o2:d.W0 < d.g0
 o3:d.g0+d.n≤d.M
 o4:d.M < d.K
 o5:d.K < d.BY
 o6:d.K < d.VIA
 o7:d.BY≠d.VIA
 o8:d.BY < d.C
 o9:d.VIA < d.C
 p64:d.pr≤64
 l64:d.lk≤64
def rowL (n:Nat) (rs:List Ru) (p:Nat):List Ru:=if p < n then byR rs p else viaR rs (p - n)
theorem rowL_len (n:Nat) (rs:List Ru) (p:Nat):(rowL n rs p).length≤rs.length:=by
 unfold rowL
 split
 ·exact byR_len _ _
 ·exact viaR_len _ _
structure MkB (w:World) (d:MkI) (rs:List Ru) (rv:Nat→Value) (qv:Value) (st:Nat):Prop where
 mm:Blk w d.M #[.pointer (some ⟨d.F,0,none⟩),.int .i64 d.pr,.int .i64 d.lk,.int .i64 st]
 kk:Blk w d.K #[.pointer (some ⟨d.M,0,none⟩),.slice (some ⟨d.BY,0,none⟩) d.n d.n,.slice (some ⟨d.VIA,0,none⟩) d.lk d.lk,qv]
 by_:Blk w d.BY (arrOf d.n rv)
 via:Blk w d.VIA (arrOf d.lk (fun j=>rv (d.n+j)))
 own:∀ p,p < d.n+d.lk→w.ownsRow d.C 151 6 (rv p) (rowL d.n rs p).length ((rowL d.n rs p).flatMap Ru.cells)
 apart:∀ p q,p < d.n+d.lk→q < d.n+d.lk→p≠q→∀ g,(rv p).ownBlock=some g→(rv q).ownBlock≠some g
 qa:∀ p,p < d.n+d.lk→∀ g,(rv p).ownBlock=some g→qv.ownBlock≠some g
 le:d.C≤w.heap.size
theorem MkB.kp {X:Nat→Prop} {w w':World} {d:MkI} {rs:List Ru} {rv:Nat→Value} {qv:Value} {st:Nat} (h:MkB w d rs rv qv st) (k:Kp X w w') (h1:¬ X d.M) (h2:¬ X d.K) (h3:¬ X d.BY) (h4:¬ X d.VIA)
  (h5:∀ p,p < d.n+d.lk→∀ g,(rv p).ownBlock=some g→¬ X g):MkB w' d rs rv qv st :=
 ⟨k.blk h.mm h1,k.blk h.kk h2,k.blk h.by_ h3,k.blk h.via h4,fun p hp=>k.own (h.own p hp) (h5 p hp),h.apart,h.qa,Nat.le_trans h.le k.size⟩
structure MkAt (w:World) (d:MkI) (rs:List Ru) (rv:Nat→Value) (fs:List (Nat × Nat)) (k:Nat) (qv:Value) (st:Nat):Prop where
 b:MkB w d rs rv qv st
 f:FamAt w d.F d.W0 d.g0 d.n d.pr fs
 q:QAt w d.C qv (fs.drop k)
 ok:d.ok
 kl:k≤fs.length
 tb:TB w
 sl:fs.length≤st
theorem MkAt.kp {X:Nat→Prop} {w w':World} {d:MkI} {rs:List Ru} {rv:Nat→Value} {fs:List (Nat × Nat)} {k:Nat} {qv:Value} {st:Nat} (h:MkAt w d rs rv fs k qv st) (k':Kp X w w') (hx:∀ b,X b→d.C≤b) (hr:∀ p,p < d.n+d.lk→∀ g,(rv p).ownBlock=some g→¬ X g) (hq:∀ g,qv.ownBlock=some g→¬ X g):MkAt w' d rs rv fs k qv st:=by
 have o:=h.ok
 have o0:=o.o0;have o1:=o.o1;have o2:=o.o2;have o3:=o.o3;have o4:=o.o4;have o5:=o.o5;have o6:=o.o6;have o8:=o.o8;have o9:=o.o9
 have no:∀ b,b < d.C→¬ X b:=fun b hb hxb=>by have:=hx b hxb;omega
 exact ⟨h.b.kp k' (no _ (by omega)) (no _ (by omega)) (no _ o8) (no _ o9) hr,h.f.kp k' (no _ (by omega)) (no _ (by omega)) (fun i hi=>no _ (by omega)),h.q.kp k' hq,o,h.kl,h.tb.kp k' (no _ (by omega)),h.sl⟩
theorem MkAt.below {w w':World} {d:MkI} {rs:List Ru} {rv:Nat→Value} {fs:List (Nat × Nat)} {k:Nat} {qv:Value} {st:Nat} (h:MkAt w d rs rv fs k qv st) (hb:Below w.heap.size w w'):MkAt w' d rs rv fs k qv st :=
 h.kp (Kp.of_below (X:=fun _=>False) hb) (fun _ h=>h.elim) (fun _ _ _ _=>id) (fun _ _=>id)
def mkX (d:MkI) (qv:Value) (b:Nat):Prop:=b=d.M∨b=d.K∨famX d.F d.g0 d.n b∨some b=qv.ownBlock
theorem mkX_no {d:MkI} {qv:Value} (o:d.ok) {b:Nat} (hb:b < d.F) (hq:∀ g,qv.ownBlock=some g→d.C≤g):¬ mkX d qv b:=by
 have o1:=o.o1;have o2:=o.o2;have o3:=o.o3;have o4:=o.o4;have o5:=o.o5;have o8:=o.o8
 rintro (h | h | h | h)
 ·omega
 ·omega
 ·rcases h with h | h <;> omega
 ·have:=hq b h.symm;omega
def qNew (w:World) (qv qv':Value):Prop:=qv'.ownBlock=qv.ownBlock∨∃ b,qv'.ownBlock=some b∧w.heap.size≤b
theorem qNew.refl (w:World) (qv:Value):qNew w qv qv:=.inl rfl
theorem qNew.trans {w w1:World} {a b c:Value} (h:qNew w a b) (g:qNew w1 b c) (hs:w.heap.size≤w1.heap.size):qNew w a c:=by
 rcases g with g | ⟨x,hx,hl⟩
 ·rcases h with h | ⟨y,hy,hm⟩
  ·exact .inl (g.trans h)
  ·exact .inr ⟨y,g.trans hy,hm⟩
 ·exact .inr ⟨x,hx,Nat.le_trans hs hl⟩
theorem mkX_sub {w:World} {d:MkI} {qv qv':Value} (h:qNew w qv qv'):∀ b,b < w.heap.size→mkX d qv' b→mkX d qv b:=by
 rintro b hb (h1 | h1 | h1 | h1)
 ·exact .inl h1
 ·exact .inr (.inl h1)
 ·exact .inr (.inr (.inl h1))
 ·rcases h with h | ⟨x,hx,hl⟩
  ·exact .inr (.inr (.inr (h1.trans h)))
  ·rw [hx] at h1;cases h1;omega
end
section
open Go.RowKit Go.Shelf

theorem mkB_steps {w:World} {d:MkI} {rs:List Ru} {rv:Nat→Value} {qv:Value} {st:Nat} (h:MkB w d rs rv qv st) (o:d.ok) (st':Nat) :
  MkB (w.setCell ⟨d.M,3,none⟩ (.int .i64 st')) d rs rv qv st':=by
 have k:Kp (fun b=>b=d.M) w (w.setCell ⟨d.M,3,none⟩ (.int .i64 st')):=Kp.set rfl
 have o4:=o.o4;have o5:=o.o5;have o6:=o.o6;have o8:=o.o8
 refine ⟨?_,k.blk h.kk (by omega),k.blk h.by_ (by omega),k.blk h.via (by omega),fun p hp=>k.own (h.own p hp) (fun g hg e=>?_),h.apart,h.qa,Nat.le_trans h.le k.size⟩
 ·simpa using h.mm.put (o:=3) (v:=.int .i64 st') (by simp)
 ·have:=((h.own p hp).lt g hg).1
  omega
theorem mkB_queue {w:World} {d:MkI} {rs:List Ru} {rv:Nat→Value} {qv:Value} {st:Nat} (h:MkB w d rs rv qv st) (o:d.ok) (qv':Value) (hq:∀ p,p < d.n+d.lk→∀ g,(rv p).ownBlock=some g→qv'.ownBlock≠some g) :
  MkB (w.setCell ⟨d.K,3,none⟩ qv') d rs rv qv' st:=by
 have k:Kp (fun b=>b=d.K) w (w.setCell ⟨d.K,3,none⟩ qv'):=Kp.set rfl
 have o4:=o.o4;have o5:=o.o5;have o6:=o.o6;have o8:=o.o8
 refine ⟨k.blk h.mm (by omega),?_,k.blk h.by_ (by omega),k.blk h.via (by omega),fun p hp=>k.own (h.own p hp) (fun g hg e=>?_),h.apart,hq,Nat.le_trans h.le k.size⟩
 ·simpa using h.kk.put (o:=3) (v:=qv') (by simp)
 ·have:=((h.own p hp).lt g hg).1
  omega
theorem addF_mem (fs:List (Nat × Nat)) (r c:Nat):(r,c)∈addF fs r c:=by unfold addF;split <;> simp_all
theorem addF_pre (fs:List (Nat × Nat)) (r c:Nat):∃ news,addF fs r c=fs++news∧∀ f∈news,f=(r,c):=by
 unfold addF
 split
 ·exact ⟨[],by simp,fun f h=>by cases h⟩
 ·exact ⟨[(r,c)],rfl,fun f h=>List.mem_singleton.1 h⟩
structure MkMore (w:World) (d:MkI) (rs:List Ru) (rv:Nat→Value) (fs:List (Nat × Nat)) (k:Nat) (qv:Value) (w':World) (fs':List (Nat × Nat)) (qv':Value) (st':Nat):Prop where
 a:MkAt w' d rs rv fs' k qv' st'
 kp:Kp (mkX d qv) w w'
 qn:qNew w qv qv'
theorem MkMore.trans {w w1 w2:World} {d:MkI} {rs:List Ru} {rv:Nat→Value} {fs fs1 fs2:List (Nat × Nat)} {k:Nat} {qv qv1 qv2:Value} {st1 st2:Nat} (h:MkMore w d rs rv fs k qv w1 fs1 qv1 st1) (g:MkMore w1 d rs rv fs1 k qv1 w2 fs2 qv2 st2) :
  MkMore w d rs rv fs k qv w2 fs2 qv2 st2:=⟨g.a,h.kp.trans g.kp (mkX_sub h.qn),h.qn.trans g.qn h.kp.size⟩
theorem MkMore.start {w:World} {d:MkI} {rs:List Ru} {rv:Nat→Value} {fs:List (Nat × Nat)} {k:Nat} {qv:Value} {st:Nat} (h:MkAt w d rs rv fs k qv st):MkMore w d rs rv fs k qv w fs qv st:=⟨h,Kp.refl _ _,qNew.refl _ _⟩
set_option maxRecDepth 100000 in
set_option maxHeartbeats 4000000 in
theorem mk_add {w:World} {d:MkI} {rs:List Ru} {rv:Nat→Value} {fs:List (Nat × Nat)} {k:Nat} {qv:Value} {st:Nat} (h:MkAt w d rs rv fs k qv st) (r c:Nat) (hr:r < d.n) (hc:c < d.pr) (hst:st≤1000000000000) :
  Calls Tryz.prog 279 #[.pointer (some ⟨d.K,0,none⟩),.int .i64 r,.int .i64 c] w fun e w'=>e=.returned (.tuple #[])∧∃ qv',MkMore w d rs rv fs k qv w' (addF fs r c) qv' (st+1):=by
 have HH:=Lib.hid h
 have ok:=h.ok
 have o1:=ok.o1;have o2:=ok.o2;have o3:=ok.o3;have o4:=ok.o4;have o5:=ok.o5;have o6:=ok.o6;have o8:=ok.o8;have o9:=ok.o9
 have hle:=h.b.le
 have hfl:=fam_len h.f
 have hn2:d.n * d.pr≤4096 * 64:=Nat.mul_le_mul h.f.r64 h.f.c64
 have hwst:IntKind.i64.wrap ((st:Int)+1)=(st:Int)+1:=Go.IntWalk.i64_in _ (by omega)
 obtain ⟨ck,fk,zk⟩:=h.b.kk
 obtain ⟨cm,fm,zm⟩:=h.b.mm
 have hfr:∀ g,qv.ownBlock=some g→d.C≤g:=fun g hg=>(h.q.ge hg).1
 have hrw:∀ p,p < d.n+d.lk→∀ g,(rv p).ownBlock=some g→d.C≤g:=fun p hp g hg=>((h.b.own p hp).lt g hg).1
 clear h
 go_enter Tryz.func279,Tryz.ntmps279
 go_wp2_with fail
 rw [show ((st:Int)+1)=((st+1:Nat):Int) from rfl]
 have hB1:=mkB_steps HH.out.b ok (st+1)
 have k1:Kp (fun b=>b=d.M) w (w.setCell ⟨d.M,3,none⟩ (.int .i64 ((st+1:Nat):Int))):=Kp.set rfl
 have hF1:=HH.out.f.kp k1 (by omega) (by omega) (fun i hi=>by omega)
 have hQ1:=HH.out.q.kp k1 (fun g hg e=>by have:=hfr g hg;omega)
 generalize w.setCell ⟨d.M,3,none⟩ (.int .i64 ((st+1:Nat):Int))=w1 at *
 have HA:=Lib.hid (fam_Add hF1 r c hr hc)
 have HB1:=Lib.hid hB1
 have HQ1:=Lib.hid hQ1
 have HK1:=Lib.hid k1
 clear hB1 hQ1 k1 hF1 cm fm zm ck fk zk
 refine HA.out.mono ?_
 rintro e w2 ⟨rfl,hF2,k2⟩
 have hB2:=HB1.out.kp k2 (fun h=>by rcases h with h | h <;> omega) (fun h=>by rcases h with h | h <;> omega) (fun h=>by rcases h with h | h <;> omega) (fun h=>by rcases h with h | h <;> omega) (fun p hp g hg h=>by have:=hrw p hp g hg;rcases h with h | h <;> omega)
 have hQ2:=HQ1.out.kp k2 (fun g hg h=>by have:=hfr g hg;rcases h with h | h <;> omega)
 have HF2:=Lib.hid hF2
 have HB2:=Lib.hid hB2
 have HQ2:=Lib.hid hQ2
 have HK2:=Lib.hid ((HK1.out.sub (Y:=mkX d qv) (fun b _ h=>.inl h)).trans (k2.sub (Y:=mkX d qv) (fun b _ h=>.inr (.inr (.inl h)))) (fun _ _ h=>h))
 have hs2:=k2.size
 clear hF2 hB2 hQ2 k2 HB1 HQ1 HA
 by_cases hf:(r,c)∈fs
 ·have RES:=Lib.hid (show addF fs r c=fs from if_pos hf)
  have d1:decide ((r,c)∈fs)=true:=decide_eq_true hf
  rw [RES.out] at HF2
  clear hf HK1
  go_wp2
  go_end0
  refine ⟨rfl,qv,?_⟩
  rw [RES.out]
  exact ⟨⟨HB2.out,HF2.out,HQ2.out,ok,HH.out.kl,HH.out.tb.kp HK2.out (mkX_no ok ok.o0 hfr),Nat.le_succ_of_le HH.out.sl⟩,HK2.out,qNew.refl _ _⟩
 ·have RES:=Lib.hid (show addF fs r c=fs++[(r,c)] from if_neg hf)
  have d1:decide ((r,c)∈fs)=false:=decide_eq_false hf
  rw [RES.out] at HF2
  have hkl:=HH.out.kl
  have HDR:=Lib.hid (show (fs++[(r,c)]).drop k=fs.drop k++[(r,c)] by rw [List.drop_append_of_le_length hkl])
  have hql:(fs.drop k).length≤1000000:=by rw [List.length_drop];omega
  have hle2:d.C≤w2.heap.size:=HB2.out.le
  obtain ⟨ck,fk,zk⟩:=HB2.out.kk
  clear hf HK1 fk
  go_wp2_with (at_builtin;refine halt_ ?_)
  unfold Halt_
  have hBa:Below w2.heap.size w2 (w2.alloc (.cells #[.int .i64 (r:Int),.int .i64 (c:Int)] 252)):=(Below.refl _ _).alloc (Nat.le_refl _) _
  have HQa:=Lib.hid (HQ2.out.kp (Kp.of_below (X:=fun _=>False) hBa) (fun _ _=>id))
  refine app_q rfl _ _ rfl d.C rfl HQa.out r c rfl (heap_new1 _ _) hql (by simp;omega) ?_
  intro v' w3 hQ3 k3 hn3
  obtain ⟨qo,qn,qc,rfl⟩:∃ a n c,v'=.slice a n c:=by obtain ⟨a,c,h⟩:=hQ3.form;exact ⟨a,_,c,h⟩
  have HB3:=Lib.hid ((HB2.out.kp (Kp.of_below (X:=fun _=>False) hBa) id id id id (fun _ _ _ _=>id)).kp k3 (fun h=>by have:=hfr _ h.symm;omega) (fun h=>by have:=hfr _ h.symm;omega) (fun h=>by have:=hfr _ h.symm;omega) (fun h=>by have:=hfr _ h.symm;omega) (fun p hp g hg h=>HB2.out.qa p hp g hg h.symm))
  have HF3:=Lib.hid ((HF2.out.below hBa).kp k3 (fun h=>by have:=hfr _ h.symm;omega) (fun h=>by have:=hfr _ h.symm;omega) (fun i hi h=>by have:=hfr _ h.symm;omega))
  have HQ3:=Lib.hid hQ3
  have hqa:∀ p,p < d.n+d.lk→∀ g,(rv p).ownBlock=some g→(Value.slice qo qn qc).ownBlock≠some g:=fun p hp g hg e=>by
   rcases hn3 with h | ⟨b,h,hl⟩
   ·exact HB2.out.qa p hp g hg (h.symm.trans e)
   ·have:=((HB2.out.own p hp).lt g hg).2
    rw [h] at e;cases e
    simp at hl;omega
  have HK3:=Lib.hid (HK2.out.trans ((Kp.of_below (X:=mkX d qv) hBa).trans (k3.sub (Y:=mkX d qv) (fun b _ h=>.inr (.inr (.inr h)))) (fun _ _ h=>h)) (fun _ _ h=>h))
  have hqn:qNew w qv (.slice qo qn qc):=by
   rcases hn3 with h | ⟨b,h,hl⟩
   ·exact .inl h
   ·refine .inr ⟨b,h,?_⟩
    have:=HK2.out.size
    simp at hl;omega
  have hge:∀ g,(Value.slice qo qn qc).ownBlock=some g→d.C≤g:=fun g hg=>(hQ3.ge hg).1
  obtain ⟨ck3,fk3,zk3⟩:=HB3.out.kk
  clear hQ3 k3 hn3 hBa HQa ck zk HB2 HF2 HQ2
  go_wp2
  go_end0
  have ks:Kp (fun b=>b=d.K) w3 (w3.setCell ⟨d.K,3,none⟩ (.slice qo qn qc)):=Kp.set rfl
  refine ⟨rfl,.slice qo qn qc,?_⟩
  rw [RES.out]
  have HKE:=HK3.out.trans (ks.sub (Y:=mkX d qv) (fun b _ h=>.inr (.inl h))) (fun _ _ h=>h)
  refine ⟨⟨mkB_queue HB3.out ok (.slice qo qn qc) hqa,HF3.out.kp ks (by omega) (by omega) (fun i hi=>by omega),?_,ok,by rw [List.length_append];omega,HH.out.tb.kp HKE (mkX_no ok ok.o0 hfr),by rw [List.length_append];exact Nat.succ_le_succ HH.out.sl⟩,HKE,hqn⟩
  rw [HDR.out]
  exact HQ3.out.kp ks (fun g hg e=>by have:=hge g hg;omega)
end
section
open Go.RowKit Go.Shelf

structure AllOf (fs:List (Nat × Nat)) (a b:Nat) (l:List Nat) (fs':List (Nat × Nat)):Prop where
 pre:∃ news,fs'=fs++news
 all:∀ c∈l,(b,c)∈fs'
 only:∀ f∈fs',f∈fs∨∃ c,f=(b,c)∧(a,c)∈fs
theorem ints_get {l:List Nat} {k:Nat} (h:k < l.length):(ints l)[k]? = some (.int .i64 (l[k]:Int)):=by
 unfold ints;rw [List.getElem?_map,List.getElem?_eq_getElem h];rfl
theorem AllOf.step {fs fs':List (Nat × Nat)} {a b:Nat} {l:List Nat} {c:Nat} (h:AllOf fs a b l fs') (hc:(a,c)∈fs):AllOf fs a b (l++[c]) (addF fs' b c):=by
 obtain ⟨n1,h1⟩:=h.pre
 obtain ⟨n2,h2,h3⟩:=addF_pre fs' b c
 refine ⟨⟨n1++n2,by rw [h2,h1,List.append_assoc]⟩,fun x hx=>?_,fun f hf=>?_⟩
 ·rcases List.mem_append.1 hx with hx | hx
  ·rw [h2];exact List.mem_append.2 (.inl (h.all x hx))
  ·rw [List.mem_singleton.1 hx];exact addF_mem _ _ _
 ·rw [h2] at hf
  rcases List.mem_append.1 hf with hf | hf
  ·exact h.only f hf
  ·exact .inr ⟨c,h3 f hf,hc⟩
set_option maxRecDepth 100000 in
set_option maxHeartbeats 4000000 in
theorem mk_all {w:World} {d:MkI} {rs:List Ru} {rv:Nat→Value} {fs:List (Nat × Nat)} {k:Nat} {qv:Value} {st:Nat} (h:MkAt w d rs rv fs k qv st) (a b:Nat) (ha:a < d.n) (hb:b < d.n) (hst:st≤100000000000) :
  Calls Tryz.prog 280 #[.pointer (some ⟨d.K,0,none⟩),.int .i64 a,.int .i64 b] w fun e w'=>e=.returned (.tuple #[])∧∃ fs' qv' st',MkMore w d rs rv fs k qv w' fs' qv' st'∧AllOf fs a b (colsOf fs a) fs'∧st'≤st+(colsOf fs a).length:=by
 have HH:=Lib.hid h
 have LI:=Lib.hid (fam_List h.f h.tb a ha)
 have hcl:=colsOf_len fs a
 have HCM:=Lib.hid (fun c (hc:c∈colsOf fs a)=>(colsOf_mem.1 hc).2)
 generalize colsOf fs a=l at *
 obtain ⟨ck,fk,zk⟩:=h.b.kk
 obtain ⟨cm,fm,zm⟩:=h.b.mm
 clear h
 go_enter Tryz.func280,Tryz.ntmps280
 go_wp2_with fail
 refine LI.out.mono ?_
 rintro e w2 ⟨v,rfl,ho,hbl⟩
 have H2:=Lib.hid (HH.out.below hbl)
 have HK0:=Lib.hid (Kp.of_below (X:=mkX d qv) hbl)
 have HO:=Lib.hid ho
 obtain ⟨oo,oc,rfl⟩:=own_form ho
 have hfr:∀ g,qv.ownBlock=some g→d.C≤g∧g < w.heap.size:=fun g hg=>HH.out.q.ge hg
 have hsz:=hbl.size
 clear ho hbl LI ck fk zk cm fm zm
 go_wp2_with fail
 go_loopw [18] (fun i wr => ∃ (n:Nat) (fs':List (Nat × Nat)) (qv':Value) (st':Nat),n≤l.length∧i=.int .i64 n∧Hid (MkMore w2 d rs rv fs k qv wr fs' qv' st')∧Hid (AllOf fs a b (l.take n) fs')∧Hid (st'≤st+n)) (fun i _=>l.length - (intOf i).toNat)
 case atStart=>exact ⟨0,fs,qv,st,by omega,rfl,Lib.hid (MkMore.start H2.out),Lib.hid ⟨⟨[],by simp⟩,(fun c hc=>by cases hc),fun f hf=>.inl hf⟩,Lib.hid (Nat.le_refl _)⟩
 case round =>
  obtain ⟨n,fs',qv',st',hn,rfl,HM,HA,HS⟩:=hrel
  by_cases hlt:n < l.length
  ·obtain ⟨b1,o1,c1,he1,hc1,hm1,hb1,hx1⟩:=(Sl.of_own HO.out).pos (by omega)
   simp only [Value.slice.injEq,true_and] at he1
   obtain ⟨rfl,rfl⟩:=he1
   have hbg:=(HO.out.lt b1 rfl).1
   have hno:¬ mkX d qv b1:=by
    have ok:=HH.out.ok
    have hle:=HH.out.b.le
    have o1:=ok.o1;have o2:=ok.o2;have o3:=ok.o3;have o4:=ok.o4;have o5:=ok.o5;have o6:=ok.o6;have o8:=ok.o8
    rintro (h | h | h | h)
    ·omega
    ·omega
    ·rcases h with h | h <;> omega
    ·have:=(hfr b1 h.symm).2;omega
   have p0:=(World.cell?_of_block (a:=⟨b1,o1+n,none⟩) (HM.out.kp.block b1 hb1 hno)).trans (hx1 n _ (ints_get hlt))
   have hbr:b1 < wr.heap.size:=Nat.lt_of_lt_of_le hb1 HM.out.kp.size
   have hin:=HCM.out l[n] (List.getElem_mem hlt)
   have hcr:=(HH.out.f.rng _ hin).2
   have AD:=Lib.hid (mk_add HM.out.a b l[n] hb hcr (by have:=HS.out;omega))
   have HAS:=Lib.hid (HA.out.step hin)
   rw [← List.take_succ_eq_append_getElem hlt] at HAS
   clear hx1 hno
   generalize l[n]=c at *
   go_wp2_with fail
   refine AD.out.mono ?_
   rintro e w3 ⟨rfl,qv2,hmm⟩
   have HM3:=Lib.hid (HM.out.trans hmm)
   clear hmm AD
   go_wp2_with fail
   exact ⟨⟨n+1,_,qv2,st'+1,by omega,by go_num,HM3,HAS,Lib.hid (by have:=HS.out;omega)⟩,by simp [intOf];omega⟩
  ·have HA2:=Lib.hid (show AllOf fs a b l fs' by have:=HA.out;rwa [List.take_of_length_le (show l.length≤n by omega)] at this)
   go_wp2
   go_end0
   exact ⟨rfl,fs',qv',st',⟨HM.out.a,HK0.out.trans HM.out.kp (fun _ _ h=>h),by
    rcases HM.out.qn with h | ⟨x,hx,hl⟩
    ·exact .inl h
    ·exact .inr ⟨x,hx,by omega⟩⟩,HA2.out,by have:=HS.out;omega⟩
end
section
open Go.RowKit Go.Shelf

theorem okRu_cases {p l:Nat} {r:Ru} (h:okRu p l r=true) :
  (∃ h x:Nat,r=⟨1,h,x,0,0,0⟩∧h < p * l∧x < p)∨(∃ h a:Nat,r=⟨2,h,0,a,0,0⟩∧h < p * l∧a < p * l) ∨
  (∃ h a v:Nat,r=⟨3,h,0,a,0,v⟩∧h < p * l∧a < p * l∧v < l)∨(∃ h a b:Nat,r=⟨4,h,0,a,b,0⟩∧h < p * l∧a < p * l∧b < p * l):=by
 obtain ⟨k,rh,who,ra,rb,via⟩:=r
 unfold okRu at h
 simp only [Bool.and_eq_true] at h
 obtain ⟨⟨_,h1⟩,h2⟩:=h
 obtain ⟨hh,rfl,hh1⟩:=inR_iff.1 h1
 by_cases k1:k=1
 ·subst k1
  rw [if_pos rfl] at h2
  simp only [Bool.and_eq_true,decide_eq_true_iff] at h2
  obtain ⟨⟨rfl,rfl,rfl⟩,h3⟩:=h2
  obtain ⟨x,rfl,hx⟩:=inR_iff.1 h3
  exact .inl ⟨hh,x,rfl,hh1,hx⟩
 ·rw [if_neg k1] at h2
  by_cases k2:k=2
  ·subst k2
   rw [if_pos rfl] at h2
   simp only [Bool.and_eq_true,decide_eq_true_iff] at h2
   obtain ⟨⟨rfl,rfl,rfl⟩,h3⟩:=h2
   obtain ⟨x,rfl,hx⟩:=inR_iff.1 h3
   exact .inr (.inl ⟨hh,x,rfl,hh1,hx⟩)
  ·rw [if_neg k2] at h2
   by_cases k3:k=3
   ·subst k3
    rw [if_pos rfl] at h2
    simp only [Bool.and_eq_true,decide_eq_true_iff] at h2
    obtain ⟨⟨⟨rfl,rfl⟩,h3⟩,h4⟩:=h2
    obtain ⟨x,rfl,hx⟩:=inR_iff.1 h3
    obtain ⟨y,rfl,hy⟩:=inR_iff.1 h4
    exact .inr (.inr (.inl ⟨hh,x,y,rfl,hh1,hx,hy⟩))
   ·rw [if_neg k3] at h2
    by_cases k4:k=4
    ·subst k4
     rw [if_pos rfl] at h2
     simp only [Bool.and_eq_true,decide_eq_true_iff] at h2
     obtain ⟨⟨⟨rfl,rfl⟩,h3⟩,h4⟩:=h2
     obtain ⟨x,rfl,hx⟩:=inR_iff.1 h3
     obtain ⟨y,rfl,hy⟩:=inR_iff.1 h4
     exact .inr (.inr (.inr ⟨hh,x,y,rfl,hh1,hx,hy⟩))
    ·rw [if_neg k4] at h2;cases h2

structure LookA (lk:Nat) (f:Nat × Nat) (fs fs':List (Nat × Nat)) (r:Ru):Prop where
 incl:r.k=2→(r.h.toNat,f.2)∈fs'
 both:r.k=4→(r.a.toNat,f.2)∈fs→(r.b.toNat,f.2)∈fs→(r.h.toNat,f.2)∈fs'
 link:r.k=3→∀ y,(f.2 * lk+r.via.toNat,y)∈fs→(r.h.toNat,y)∈fs'
theorem LookA.mono {lk:Nat} {f:Nat × Nat} {fs fs1 fs2:List (Nat × Nat)} {r:Ru} (h:LookA lk f fs fs1 r) (hs:∀ g∈fs1,g∈fs2):LookA lk f fs fs2 r :=
 ⟨fun e=>hs _ (h.incl e),fun e a b=>hs _ (h.both e a b),fun e y hy=>hs _ (h.link e y hy)⟩
structure Grow (lk:Nat) (rs:List Ru) (fs fs':List (Nat × Nat)):Prop where
 pre:∃ news,fs'=fs++news
 sound:∀ E:Nat→Nat→Prop,CloN lk rs E→(∀ g∈fs,E g.1 g.2)→∀ g∈fs',E g.1 g.2
theorem Grow.refl (lk:Nat) (rs:List Ru) (fs:List (Nat × Nat)):Grow lk rs fs fs:=⟨⟨[],by simp⟩,fun _ _ h=>h⟩
theorem Grow.trans {lk:Nat} {rs:List Ru} {a b c:List (Nat × Nat)} (h:Grow lk rs a b) (g:Grow lk rs b c):Grow lk rs a c:=by
 obtain ⟨n1,rfl⟩:=h.pre
 obtain ⟨n2,rfl⟩:=g.pre
 exact ⟨⟨n1++n2,by rw [List.append_assoc]⟩,fun E hE h0=>g.sound E hE (h.sound E hE h0)⟩
theorem Grow.sub {lk:Nat} {rs:List Ru} {a b:List (Nat × Nat)} (h:Grow lk rs a b):∀ g∈a,g∈b:=by
 obtain ⟨n1,rfl⟩:=h.pre
 exact fun g hg=>List.mem_append.2 (.inl hg)
theorem Grow.add {lk:Nat} {rs:List Ru} {fs:List (Nat × Nat)} {r c:Nat} (h:∀ E:Nat→Nat→Prop,CloN lk rs E→(∀ g∈fs,E g.1 g.2)→E r c):Grow lk rs fs (addF fs r c):=by
 obtain ⟨n,e,hn⟩:=addF_pre fs r c
 refine ⟨⟨n,e⟩,fun E hE h0 g hg=>?_⟩
 rw [e] at hg
 rcases List.mem_append.1 hg with hg | hg
 ·exact h0 g hg
 ·rw [hn g hg];exact h E hE h0
theorem Grow.all {lk:Nat} {rs:List Ru} {fs fs':List (Nat × Nat)} {a b:Nat} {l:List Nat} (h:AllOf fs a b l fs') (hs:∀ E:Nat→Nat→Prop,CloN lk rs E→(∀ g∈fs,E g.1 g.2)→∀ c,(a,c)∈fs→E b c):Grow lk rs fs fs' :=
 ⟨h.pre,fun E hE h0 g hg=>by
  rcases h.only g hg with h1 | ⟨c,rfl,hc⟩
  ·exact h0 g h1
  ·exact hs E hE h0 c hc⟩
theorem colsOf_le {fs:List (Nat × Nat)} {rows cols:Nat} (h:∀ f∈fs,f.1 < rows∧f.2 < cols) (i:Nat):(colsOf fs i).length≤cols:=by
 have h1:=nodup_le (colsOf fs i) (List.range cols) (List.Pairwise.imp (fun h=>Nat.ne_of_lt h) (colsOf_asc fs i)) (fun c hc=>List.mem_range.2 (h _ (colsOf_mem.1 hc).2).2)
 rwa [List.length_range] at h1
section
variable {w w1 w2:World} {d:MkI} {rs:List Ru} {rv:Nat→Value} {fs fs1:List (Nat × Nat)} {k:Nat} {qv qv1:Value} {st st1:Nat}
theorem MkMore.below (h:MkMore w d rs rv fs k qv w1 fs1 qv1 st1) (hb:Below w1.heap.size w1 w2):MkMore w d rs rv fs k qv w2 fs1 qv1 st1 :=
 ⟨h.a.below hb,h.kp.trans (Kp.of_below (X:=mkX d qv) hb) (fun _ _ h=>h),h.qn⟩
theorem MkAt.qge (h:MkAt w d rs rv fs k qv st):∀ g,qv.ownBlock=some g→d.C≤g∧g < w.heap.size:=fun _ hg=>h.q.ge hg
theorem MkAt.steps (h:MkAt w d rs rv fs k qv st) (st':Nat) (hs:st≤st':=by omega):MkAt (w.setCell ⟨d.M,3,none⟩ (.int .i64 st')) d rs rv fs k qv st':=by
 have ok:=h.ok
 have o0:=ok.o0;have o1:=ok.o1;have o2:=ok.o2;have o3:=ok.o3;have o4:=ok.o4;have o5:=ok.o5;have o8:=ok.o8
 have ks:Kp (fun b=>b=d.M) w (w.setCell ⟨d.M,3,none⟩ (.int .i64 st')):=Kp.set rfl
 exact ⟨mkB_steps h.b ok st',h.f.kp ks (by omega) (by omega) (fun i hi=>by omega),h.q.kp ks (fun g hg e=>by have:=(h.q.ge hg).1;omega),ok,h.kl,h.tb.kp ks (by omega),Nat.le_trans h.sl hs⟩
theorem MkMore.steps (h:MkMore w d rs rv fs k qv w1 fs1 qv1 st1) (st':Nat) (hs:st1≤st':=by omega):MkMore w d rs rv fs k qv (w1.setCell ⟨d.M,3,none⟩ (.int .i64 st')) fs1 qv1 st' :=
 ⟨h.a.steps st' hs,h.kp.trans (Kp.set (X:=mkX d qv) (.inl rfl)) (fun _ _ h=>h),h.qn⟩
theorem mkX_far (h:MkAt w d rs rv fs k qv st) {b:Nat} (hb:d.C≤b) (hq:qv.ownBlock≠some b):¬ mkX d qv b:=by
 have ok:=h.ok
 have o1:=ok.o1;have o2:=ok.o2;have o3:=ok.o3;have o4:=ok.o4;have o5:=ok.o5;have o8:=ok.o8
 rintro (h | h | h | h)
 ·omega
 ·omega
 ·rcases h with h | h <;> omega
 ·exact hq h.symm
end
end
section
open Go.RowKit Go.Shelf

theorem step_rowE {P:Program} {w:World} {ops:Array Oper} {o:Oper} {a:Act} {K:Act→World→Prop} {Q:Exit→Act→World→Prop} {E:Prop} (hgd:o.guard=none) (s x:Operand) (t:TypeId)
  (ho:o.op=.call { callee:=.builtin .append,args:=#[s,x],argTypes:=#[t,t] })
  (base:Nat) (e:TypeId) (i:TypeInfo) (z:Value) (size bytes:Nat) (ht:P.underlying t=some (.slice e)) (hi:P.info? e=some i) (hz:i.zero=some z)
  (hsize:i.size=size) (hby:i.bytes=bytes) (hb1000:bytes≤1000) (hzs:z.cells.size=size) (hsz:0 < size)
  (v:Value) (n:Nat) (xs:List Value) (hs:a.eval s=v) (hown:w.ownsRow base e size v n xs)
  (va:Value) (m:Nat) (ys:List Value) (hx:a.eval x=va) (ha:SlA w size va m ys) (h1:∀ u∈ys,u.oneCell'=true)
  (hnm:n+m≤100000000000) (hbase:base≤w.heap.size)
  (h:∀ a' cap' w',w'.ownsRow base e size (.slice a' (n+m) cap') (n+m) (xs++ys)→w.grownBy w' v.ownBlock→(∀ k,k < w.heap.size→some k≠v.ownBlock→some k≠(Value.slice a' (n+m) cap').ownBlock)→K (a.put o.dst (.slice a' (n+m) cap')) w') :
  if Region.wanted o (yielded ops a.tmps)=true then Oper.wp P o a w K Q else E:=by
 by_cases h0:0 < m
 ·obtain ⟨b,off,c,rfl,hc,hm,hb,hcell⟩:=ha.pos h0
  have hl:ys.length=m * size:=by
   rcases ha with ha | ⟨_,rfl,rfl⟩
   ·exact ha.len
   ·simp
  have hbb:(n+m) * bytes≤140737488355328:=Nat.le_trans (Nat.mul_le_mul (Nat.le_refl _) hb1000) (by omega)
  refine step_append_lies w hgd s x t ho base e i z size bytes ht hi hz hsize hby hzs hsz v n xs hs hown ⟨b,off,none⟩ m c ys hx hl (fun j u hu=>by rw [addr_add];exact hcell j u hu) h1 h0 (by simp only [maxLen];omega) hbb hbase _ rfl
   (fun g cap w' h1 h2 h3 _=>h _ cap w' h1 h2 (fun k hk hne he=>?_))
  injection he with he
  dsimp only at he
  subst he
  rcases h3 with h3 | h3
  ·exact hne h3.symm
  ·omega
 ·obtain rfl:m=0:=by omega
  have hy:ys=[]:=by
   rcases ha with ha | ⟨_,_,rfl⟩
   ·have:=ha.len;exact List.eq_nil_of_length_eq_zero (by omega)
   ·rfl
  subst hy
  obtain ⟨ax,cx,rfl⟩:=ha.form
  obtain ⟨ao,cap,rfl,hnc⟩:=own_form2 hown
  refine step_zero w hgd s x t ho e i ht hi ao n cap hnc hs ax cx hx ?_
  refine h ao cap w (by rw [List.append_nil];exact hown) ⟨rfl,rfl,rfl,Nat.le_refl _,fun _ _ _=>rfl⟩ (fun k _ hne he=>hne (by rw [he];cases ao <;> rfl))
theorem own_grown {w w':World} {base size n:Nat} {e:TypeId} {v:Value} {xs:List Value} {r:Option Nat} (h:w.ownsRow base e size v n xs) (hg:w.grownBy w' r) (hne:∀ k,some k=v.ownBlock→some k≠r):w'.ownsRow base e size v n xs:=by
 obtain ⟨h1,h2⟩:=h
 refine ⟨h1,?_⟩
 rcases h2 with h2 | ⟨g,cap,cur,rfl,hb,hh,h3⟩
 ·exact .inl h2
 ·exact .inr ⟨g,cap,cur,rfl,hb,(hg.block g (Array.getElem?_eq_some_iff.1 hh).1 (hne g rfl)).trans hh,h3⟩
end
section
open Go.RowKit Go.Shelf

def rowPut (rv:Nat→Value) (p:Nat) (v:Value):Nat→Value:=fun q=>if q=p then v else rv q
theorem kp_low {X:Nat→Prop} {w w':World} {n:Nat} (h:Kp X w w') (hn:n≤w.heap.size) (hx:∀ b,X b→n≤b):Below n w w':=h.below hn (fun b hb hxb=>by have:=hx b hxb;omega)
theorem mkX_ge {w:World} {d:MkI} {rs:List Ru} {rv:Nat→Value} {fs:List (Nat × Nat)} {k:Nat} {qv:Value} {st:Nat} (h:MkAt w d rs rv fs k qv st):∀ b,mkX d qv b→d.F≤b:=by
 have ok:=h.ok
 have o1:=ok.o1;have o2:=ok.o2;have o3:=ok.o3;have o4:=ok.o4;have o5:=ok.o5;have o8:=ok.o8
 rintro b (h1 | h1 | h1 | h1)
 ·omega
 ·omega
 ·rcases h1 with h1 | h1 <;> omega
 ·have:=(h.qge b h1.symm).1;omega
theorem MkAt.lowF {w:World} {d:MkI} {rs:List Ru} {rv:Nat→Value} {fs:List (Nat × Nat)} {k:Nat} {qv:Value} {st:Nat} (h:MkAt w d rs rv fs k qv st):d.F≤w.heap.size:=Nat.le_of_lt h.f.ff.2.2
structure MkR (w:World) (d:MkI) (rl:Nat→List Ru) (rv:Nat→Value) (fs:List (Nat × Nat)) (k:Nat) (qv:Value) (st:Nat):Prop where
 mm:Blk w d.M #[.pointer (some ⟨d.F,0,none⟩),.int .i64 d.pr,.int .i64 d.lk,.int .i64 st]
 kk:Blk w d.K #[.pointer (some ⟨d.M,0,none⟩),.slice (some ⟨d.BY,0,none⟩) d.n d.n,.slice (some ⟨d.VIA,0,none⟩) d.lk d.lk,qv]
 by_:Blk w d.BY (arrOf d.n rv)
 via:Blk w d.VIA (arrOf d.lk (fun j=>rv (d.n+j)))
 own:∀ p,p < d.n+d.lk→w.ownsRow d.C 151 6 (rv p) (rl p).length ((rl p).flatMap Ru.cells)
 apart:∀ p q,p < d.n+d.lk→q < d.n+d.lk→p≠q→∀ g,(rv p).ownBlock=some g→(rv q).ownBlock≠some g
 qa:∀ p,p < d.n+d.lk→∀ g,(rv p).ownBlock=some g→qv.ownBlock≠some g
 le:d.C≤w.heap.size
 f:FamAt w d.F d.W0 d.g0 d.n d.pr fs
 q:QAt w d.C qv (fs.drop k)
 ok:d.ok
 kl:k≤fs.length
 tb:TB w
 sl:fs.length≤st
section
variable {w w':World} {d:MkI} {rl:Nat→List Ru} {rs:List Ru} {rv:Nat→Value} {fs:List (Nat × Nat)} {k:Nat} {qv:Value} {st:Nat}
theorem MkAt.r (h:MkAt w d rs rv fs k qv st):MkR w d (rowL d.n rs) rv fs k qv st:=⟨h.b.mm,h.b.kk,h.b.by_,h.b.via,h.b.own,h.b.apart,h.b.qa,h.b.le,h.f,h.q,h.ok,h.kl,h.tb,h.sl⟩
theorem MkR.at (h:MkR w d rl rv fs k qv st) (e:∀ p,p < d.n+d.lk→rl p=rowL d.n rs p):MkAt w d rs rv fs k qv st :=
 ⟨⟨h.mm,h.kk,h.by_,h.via,fun p hp=>by rw [← e p hp];exact h.own p hp,h.apart,h.qa,h.le⟩,h.f,h.q,h.ok,h.kl,h.tb,h.sl⟩
theorem MkR.kp {X:Nat→Prop} (h:MkR w d rl rv fs k qv st) (k':Kp X w w') (hx:∀ b,X b→d.C≤b) (hr:∀ p,p < d.n+d.lk→∀ g,(rv p).ownBlock=some g→¬ X g) (hq:∀ g,qv.ownBlock=some g→¬ X g):MkR w' d rl rv fs k qv st:=by
 have o:=h.ok
 have o0:=o.o0;have o1:=o.o1;have o2:=o.o2;have o3:=o.o3;have o4:=o.o4;have o5:=o.o5;have o6:=o.o6;have o8:=o.o8;have o9:=o.o9
 have no:∀ b,b < d.C→¬ X b:=fun b hb hxb=>by have:=hx b hxb;omega
 exact ⟨k'.blk h.mm (no _ (by omega)),k'.blk h.kk (no _ (by omega)),k'.blk h.by_ (no _ o8),k'.blk h.via (no _ o9),fun p hp=>k'.own (h.own p hp) (hr p hp),h.apart,h.qa,Nat.le_trans h.le k'.size,
  h.f.kp k' (no _ (by omega)) (no _ (by omega)) (fun i hi=>no _ (by omega)),h.q.kp k' hq,o,h.kl,h.tb.kp k' (no _ (by omega)),h.sl⟩
theorem MkR.below (h:MkR w d rl rv fs k qv st) (hb:Below w.heap.size w w'):MkR w' d rl rv fs k qv st :=
 h.kp (Kp.of_below (X:=fun _=>False) hb) (fun _ h=>h.elim) (fun _ _ _ _=>id) (fun _ _=>id)
theorem MkR.put (h:MkR w d rl rv fs k qv st) {p:Nat} (hp:p < d.n+d.lk) {v':Value} {w1:World} {r:Ru} (ho:w1.ownsRow d.C 151 6 v' (rl p++[r]).length ((rl p++[r]).flatMap Ru.cells)) (hg:w.grownBy w1 (rv p).ownBlock)
  (hn:∀ b,b < w.heap.size→some b≠(rv p).ownBlock→some b≠v'.ownBlock) :
  MkR (w1.setCell (if p < d.n then ⟨d.BY,p,none⟩ else ⟨d.VIA,p - d.n,none⟩) v') d (fun q=>if q=p then rl p++[r] else rl q) (rowPut rv p v') fs k qv st∧Below d.F w (w1.setCell (if p < d.n then ⟨d.BY,p,none⟩ else ⟨d.VIA,p - d.n,none⟩) v'):=by
 have o:=h.ok
 have o0:=o.o0;have o1:=o.o1;have o2:=o.o2;have o3:=o.o3;have o4:=o.o4;have o5:=o.o5;have o6:=o.o6;have o7:=o.o7;have o8:=o.o8;have o9:=o.o9
 have k1:Kp (fun b=>some b=(rv p).ownBlock) w w1:=Kp.of_grown hg (fun b hb=>hb)
 have hge:∀ p,p < d.n+d.lk→∀ g,(rv p).ownBlock=some g→d.C≤g:=fun p hp g hg=>((h.own p hp).lt g hg).1
 have hC:d.C≤w.heap.size:=h.le
 have hX:∀ b,b < d.C→¬ some b=(rv p).ownBlock:=fun b hb e=>by have:=hge p hp b e.symm;omega
 have hvX:∀ g,v'.ownBlock=some g→d.C≤g:=fun g hg=>(ho.lt g hg).1
 obtain ⟨A,hA⟩:∃ A:Addr,A=(if p < d.n then (⟨d.BY,p,none⟩:Addr) else ⟨d.VIA,p - d.n,none⟩):=⟨_,rfl⟩
 rw [← hA]
 have hAb:A.block=d.BY∨A.block=d.VIA:=by
  rw [hA]
  by_cases hpn:p < d.n
  ·rw [if_pos hpn];exact .inl rfl
  ·rw [if_neg hpn];exact .inr rfl
 have hAC:A.block < d.C:=by rcases hAb with e | e <;> rw [e] <;> assumption
 have hAK:d.K < A.block:=by rcases hAb with e | e <;> rw [e] <;> assumption
 have k2:Kp (fun b=>b=A.block) w1 (w1.setCell A v'):=⟨rfl,rfl,rfl,by simp [World.setCell],fun j _ hj=>Below.heap_setCell _ _ _ _ hj⟩
 have k3:Kp (fun b=>some b=(rv p).ownBlock∨b=A.block) w (w1.setCell A v'):=(k1.sub (fun b _ h=>.inl h)).trans (k2.sub (Y:=fun b=>some b=(rv p).ownBlock∨b=A.block) (fun b _ h=>.inr h)) (fun _ _ h=>h)
 have no:∀ b,b < d.C→b≠A.block→¬ (some b=(rv p).ownBlock∨b=A.block):=fun b hb hne h=>h.elim (hX b hb) hne
 have hby:Blk w1 d.BY (arrOf d.n rv):=k1.blk h.by_ (hX _ o8)
 have hvia:Blk w1 d.VIA (arrOf d.lk (fun j=>rv (d.n+j))):=k1.blk h.via (hX _ o9)
 refine ⟨⟨k3.blk h.mm (no _ (by omega) (by omega)),k3.blk h.kk (no _ (by omega) (by omega)),?_,?_,?_,?_,?_,Nat.le_trans h.le k3.size,h.f.kp k3 (no _ (by omega) (by omega)) (no _ (by omega) (by omega)) (fun i hi=>no _ (by omega) (by omega)),h.q.kp k3 ?_,o,h.kl,h.tb.kp k3 (no _ (by omega) (by omega)),h.sl⟩,kp_low k3 (Nat.le_of_lt h.f.ff.2.2) ?_⟩
 ·by_cases hpn:p < d.n
  ·rw [hA,if_pos hpn]
   have:=hby.put (o:=p) (v:=v') (by rw [arrOf_size];exact hpn)
   rw [arrOf_set _ _ _ _ hpn] at this
   exact this
  ·rw [hA,if_neg hpn]
   have:=hby.far (g:=d.VIA) (o:=p - d.n) (v:=v') (by omega)
   rw [arrOf_congr (f:=rv) (g:=rowPut rv p v') (fun i hi=>by unfold rowPut;rw [if_neg (by omega)])] at this
   exact this
 ·by_cases hpn:p < d.n
  ·rw [hA,if_pos hpn]
   have:=hvia.far (g:=d.BY) (o:=p) (v:=v') (by omega)
   rw [arrOf_congr (g:=fun j=>rowPut rv p v' (d.n+j)) (fun i hi=>by unfold rowPut;rw [if_neg (by omega)])] at this
   exact this
  ·rw [hA,if_neg hpn]
   have hpl:p - d.n < d.lk:=by omega
   have:=hvia.put (o:=p - d.n) (v:=v') (by rw [arrOf_size];exact hpl)
   rw [arrOf_set _ _ _ _ hpl,arrOf_congr (g:=fun j=>rowPut rv p v' (d.n+j)) (fun i hi=>by
    unfold rowPut
    by_cases e:i=p - d.n
    ·rw [if_pos e,if_pos (by omega)]
    ·rw [if_neg e,if_neg (by omega)])] at this
   exact this
 ·intro q hq
  by_cases e:q=p
  ·subst e
   simp only [rowPut,if_pos]
   exact k2.own ho (fun g hg e=>by have:=hvX g hg;omega)
  ·simp only [rowPut,if_neg e]
   refine k3.own (h.own q hq) (fun g hg hx=>?_)
   rcases hx with hx | hx
   ·exact h.apart p q hp hq (fun e'=>e e'.symm) g hx.symm hg
   ·have:=hge q hq g hg;omega
 ·intro a b ha hb hab g hga
  unfold rowPut at hga ⊢
  by_cases ea:a=p
  ·rw [if_pos ea] at hga
   rw [if_neg (fun e=>hab (ea.trans e.symm))]
   intro hgb
   have hlt:=((h.own b hb).lt g hgb).2
   exact hn g hlt (fun e=>h.apart p b hp hb (fun e'=>hab (ea.trans e')) g e.symm hgb) hga.symm
  ·rw [if_neg ea] at hga
   by_cases eb:b=p
   ·rw [if_pos eb]
    intro hgb
    have hlt:=((h.own a ha).lt g hga).2
    exact hn g hlt (fun e=>h.apart p a hp ha (fun e'=>ea e'.symm) g e.symm hga) hgb.symm
   ·rw [if_neg eb];exact h.apart a b ha hb hab g hga
 ·intro a ha g hga
  unfold rowPut at hga
  by_cases ea:a=p
  ·rw [if_pos ea] at hga
   intro hgq
   have hlt:=(h.q.ge hgq).2
   exact hn g hlt (fun e=>h.qa p hp g e.symm hgq) hga.symm
  ·rw [if_neg ea] at hga;exact h.qa a ha g hga
 ·intro g hg hx
  rcases hx with hx | hx
  ·exact h.qa p hp g hx.symm hg
  ·have:=(h.q.ge hg).1;omega
 ·rintro b (hx | hx)
  ·have:=hge p hp b hx.symm;omega
  ·omega
end
end
end Go.Proofs.YtilgbodgmkmjjaaGreatDoor
