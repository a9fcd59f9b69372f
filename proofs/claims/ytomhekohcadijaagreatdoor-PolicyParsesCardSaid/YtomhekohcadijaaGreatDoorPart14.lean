/- Parts: KpLaw RegLast PolLine PolLineA PolLineC PolLineG PolLineH -/
import Derived.Test.YtomhekohcadijaaGreatDoorPart13
import Derived.Test.YtomhekohcadijaaGreatDoorPart7
import Derived.Test.YtomhekohcadijaaGreatDoorPart12
import Derived.Test.YtomhekohcadijaaGreatDoorPart3
import Derived.Test.YtomhekohcadijaaGreatDoorPart10
namespace Go.Proofs.YtomhekohcadijaaGreatDoor
section
open Go.RowKit Go.Shelf

structure Kp (X:Nat→Prop) (w w':World):Prop where
 os:w'.os=w.os
 tape:w'.tape=w.tape
 output:w'.output=w.output
 size:w.heap.size≤w'.heap.size
 block:∀ k,k < w.heap.size→¬ X k→w'.heap[k]? = w.heap[k]?
section
variable {X Y:Nat→Prop} {w w1 w2:World}
theorem Kp.of_below (h:Below w.heap.size w w1):Kp X w w1:=⟨h.os,h.tape,h.output,h.size,fun k hk _=>h.block k hk⟩
theorem Kp.of_grown {r:Option Nat} (h:w.grownBy w1 r) (hr:∀ b,some b=r→X b):Kp X w w1:=⟨h.os,h.tape,h.output,h.size,fun k hk hx=>h.block k hk (fun e=>hx (hr k e))⟩
theorem Kp.trans (h:Kp X w w1) (g:Kp Y w1 w2) (hxy:∀ b,b < w.heap.size→Y b→X b):Kp X w w2 :=
 ⟨g.os.trans h.os,g.tape.trans h.tape,g.output.trans h.output,Nat.le_trans h.size g.size,fun k hk hx=>(g.block k (Nat.lt_of_lt_of_le hk h.size) (fun hy=>hx (hxy k hk hy))).trans (h.block k hk hx)⟩
theorem Kp.below {n:Nat} (h:Kp X w w1) (hn:n≤w.heap.size) (hx:∀ b,b < n→¬ X b):Below n w w1:=⟨h.os,h.tape,h.output,h.size,fun k hk=>h.block k (Nat.lt_of_lt_of_le hk hn) (hx k hk)⟩
theorem Kp.blk {b:Nat} {cs:Array Value} (h:Kp X w w1) (hb:Blk w b cs) (hx:¬ X b):Blk w1 b cs:=by
 have e:=h.block b hb.2.2 hx
 exact ⟨fun o=>(World.cell?_of_block (a:=⟨b,o,none⟩) e).trans (hb.1 o),fun o=>(World.frozen?_of_block (a:=⟨b,o,none⟩) e).trans (hb.2.1 o),Nat.lt_of_lt_of_le hb.2.2 h.size⟩
theorem Kp.own {base size n:Nat} {e:TypeId} {v:Value} {xs:List Value} (h:Kp X w w1) (ho:w.ownsRow base e size v n xs) (hx:∀ g,v.ownBlock=some g→¬ X g):w1.ownsRow base e size v n xs:=by
 refine ⟨ho.1,?_⟩
 rcases ho.2 with h2 | ⟨g,cap,cur,rfl,hb,hg,hr⟩
 ·exact .inl h2
 ·exact .inr ⟨g,cap,cur,rfl,hb,(h.block g (Array.getElem?_eq_some_iff.1 hg).1 (hx g rfl)).trans hg,hr⟩
theorem Kp.set {b o:Nat} {v:Value} (hx:X b):Kp X w (w.setCell ⟨b,o,none⟩ v) :=
 ⟨rfl,rfl,rfl,by simp [World.setCell],fun k _ hk=>Below.heap_setCell _ _ _ _ (fun e=>hk (by have e':k=b:=e;rw [e'];exact hx))⟩
end
end
section
open Go.RowKit Go.Shelf

section
variable {P:Program} {ops:Array Oper} {Q:Exit→Act→World→Prop} {md:Region.Mode} {S:World→Prop} {last:Nat}

def underB (md:Region.Mode) (ops:Array Oper):Nat→Nat→Nat→Bool
 | 0,_,_=>false
 | f+1,j,i=>match ops[j]? with
  | none=>false
  | some o=>o.after.any fun e=>Region.binds md e && (e.on == i || underB md ops f e.on i)
def ClosedL (md:Region.Mode) (ops:Array Oper) (listed:Array Bool):Prop :=
 ∀ j o,ops[j]? = some o→listed.getD j false=true→∀ e∈o.after,Region.binds md e=true→listed.getD e.on false=true
def closedB (md:Region.Mode) (ops:Array Oper) (listed:Array Bool):Bool :=
 (List.range ops.size).all fun j => !listed.getD j false || match ops[j]? with
  | some o=>o.after.all fun e => !Region.binds md e || listed.getD e.on false
  | none=>true
theorem closedB_spec {listed:Array Bool} (h:closedB md ops listed=true):ClosedL md ops listed:=by
 intro j o ho hl e he hb
 have h1:=List.all_eq_true.1 h j (List.mem_range.2 (Array.getElem?_eq_some_iff.1 ho).1)
 rw [hl,ho] at h1
 simp only [Bool.not_true,Bool.false_or] at h1
 have h2:=Array.all_eq_true_iff_forall_mem.1 h1 e he
 rw [hb] at h2
 simpa using h2
theorem under_listed {listed:Array Bool} (hc:ClosedL md ops listed):∀ (f j i:Nat),underB md ops f j i=true →
  (∀ o,ops[j]? = some o→∀ e∈o.after,Region.binds md e=true→listed.getD e.on false=true)→listed.getD i false=true
 | 0,_,_,h,_=>by cases h
 | f+1,j,i,h,hl=>by
  unfold underB at h
  cases ho:ops[j]? with
  | none=>rw [ho] at h;cases h
  | some o =>
   rw [ho] at h
   obtain ⟨e,he,hb⟩:=Array.any_eq_true'.1 h
   rw [Bool.and_eq_true,Bool.or_eq_true] at hb
   have h2:=hl o ho e he hb.1
   rcases hb.2 with h1 | h1
   ·rw [← (beq_iff_eq.1 h1)];exact h2
   ·exact under_listed hc f e.on i h1 (fun o' ho' e' he' hb'=>hc _ o' ho' h2 e' he' hb')
theorem closed_set {listed:Array Bool} {j:Nat} (hc:ClosedL md ops listed) (hj:j∈Region.ready md ops listed):ClosedL md ops (listed.setIfInBounds j true):=by
 intro k o ho hl e he hb
 by_cases hk:k=j
 ·subst hk
  obtain ⟨_,o',ho',hall⟩:=mem_ready.1 hj
  rw [ho] at ho';cases ho'
  exact getD_set_true (hall e he hb)
 ·rw [getD_set_ne false (Ne.symm hk)] at hl
  exact getD_set_true (hc k o ho hl e he hb)

def wpAnyL (P:Program) (md:Region.Mode) (ops:Array Oper) (Q:Exit→Act→World→Prop) (S:World→Prop) (last:Nat):Nat→Array Bool→Act→World→Prop
 | 0,listed,a,w=>Region.ready md ops listed=[]∧Q .normal a w
 | fuel+1,listed,a,w =>
  (Region.ready md ops listed=[]→Q .normal a w) ∧
  ∀ i∈Region.ready md ops listed,wpOp P ops Q i (fun a' w'=>(i=last∨S w')∧wpAnyL P md ops Q S last fuel (listed.setIfInBounds i true) a' w') a w
theorem wpAny_of_l:∀ (fuel:Nat) (listed:Array Bool) (a:Act) (w:World),wpAnyL P md ops Q S last fuel listed a w→wpAny P md ops Q fuel listed a w
 | 0,_,_,_,h=>h
 | fuel+1,_,_,_,h=>⟨h.1,fun i hi=>wpOp_mono (fun a' w' h'=>wpAny_of_l fuel _ a' w' h'.2) (h.2 i hi)⟩
theorem wpAnyL_first {i:Nat} {oi:Oper} {v:Value} (hi:ops[i]? = some oi) (hsel:∀ (j:Nat) (o:Oper) cs b,ops[j]? = some o→o.op≠.select cs b)
  (hQ:∀ c a w,Q (.panic c) (a.put oi.dst v) w→Q (.panic c) a w) (f:Nat) (hu:underB md ops f last i=true) :
  ∀ (fuel:Nat) (listed:Array Bool) (a:Act) (w:World),ClosedL md ops listed →
   (∀ j oj,ops[j]? = some oj→j≠i→listed.getD j true=false→(∀ e∈oj.after,Region.binds md e=true→e.on≠i)→oi.apart ops oj=true) →
   i∈Region.ready md ops listed→YieldsIf P ops S oi v a→S w →
   wpAnyL P md ops Q S last fuel (listed.setIfInBounds i true) (a.put oi.dst v) w→wpAnyL P md ops Q S last (fuel+1) listed a w:=by
 intro fuel
 induction fuel with
 | zero =>
  intro listed a w _ _ hr hy hS H
  refine ⟨fun h=>(by rw [h] at hr;cases hr),fun j hj=>?_⟩
  by_cases hji:j=i
  ·subst hji;exact hy.wpOp hi hS ⟨.inr hS,H⟩
  ·have:=ready_mono hj hji
   rw [H.1] at this
   cases this
 | succ fuel ih =>
  intro listed a w hc hfree hr hy hS H
  refine ⟨fun h=>(by rw [h] at hr;cases hr),fun j hj=>?_⟩
  by_cases hji:j=i
  ·subst hji;exact hy.wpOp hi hS ⟨.inr hS,H⟩
  ·have h1:=H.2 j (ready_mono hj hji)
   obtain ⟨hjun,oj,hoj,hall⟩:=mem_ready.1 hj
   have hiun:=(mem_ready.1 hr).1
   have noti:listed.getD i false=true→False:=fun h1=>by
    rcases Nat.lt_or_ge i listed.size with h' | h'
    ·simp [h'] at hiun h1;rw [hiun] at h1;cases h1
    ·simp [Array.getElem?_eq_none h'] at h1
   have hnot:∀ e∈oj.after,Region.binds md e=true→e.on≠i:=fun e he hb heq=>noti (heq ▸ hall e he hb)
   have hlast:j≠last:=fun e=>by
    subst e
    exact noti (under_listed hc _ _ _ hu (fun o ho e he hb=>by rw [hoj] at ho;cases ho;exact hall e he hb))
   have h2:=wpOp_putIf hoj (hfree j oj hoj hji hjun hnot) (fun cs b=>hsel i oi cs b hi) (fun cs b=>hsel j oj cs b hoj) hQ hy h1
   have hfree':∀ k ok,ops[k]? = some ok→k≠i→(listed.setIfInBounds j true).getD k true=false →
     (∀ e∈ok.after,Region.binds md e=true→e.on≠i)→oi.apart ops ok=true:=fun k ok hk hki hun hno=>by
    refine hfree k ok hk hki ?_ hno
    by_cases hjk:j=k
    ·subst hjk;exact hjun
    ·rw [getD_set_ne true hjk] at hun;exact hun
   refine wpOp_mono (fun a' w' h3=>⟨h3.2.1,ih (listed.setIfInBounds j true) a' w' (closed_set hc hj) hfree' (ready_mono hr (Ne.symm hji)) h3.1 (h3.2.1.resolve_left hlast) ?_⟩) h2
   rw [Array.setIfInBounds_comm _ _ hji]
   exact h3.2.2
theorem wpAnyL_done {listed:Array Bool} {a:Act} {w:World} (hr:Region.ready md ops listed=[]) (h:Q .normal a w) :
  ∀ fuel,wpAnyL P md ops Q S last fuel listed a w
 | 0=>⟨hr,h⟩
 | _+1=>⟨fun _=>h,by rw [hr];simp⟩
end

theorem wp_region_last {P:Program} {Q:Exit→Act→World→Prop} {S:World→Prop} {l:List Oper} {id:Nat} {a:Act} {w:World} (last:Nat) (hm:P.follows .mixedOrders=true) (hS:S w.drew)
  (h:S w.drew→wpAnyL P .any l.toArray Q S last l.toArray.size (Array.replicate l.toArray.size false) a w.drew):(Code.region id l.toArray true).wp P Q a w :=
 wp_region_any hm (wpAny_of_l _ _ _ _ (h hS))
theorem last_yes {P:Program} {md:Region.Mode} {S:World→Prop} {Q:Exit→Act→World→Prop} {fuel last:Nat} {listed:Array Bool} {a:Act} {w:World} {v:Value} {oi:Oper} {l:List Oper} (i:Nat) (hi:nthOp l i=some oi)
  (hs:Region.noSelect l.toArray=true) (hf:Region.free md l.toArray listed i=true) (hr:(Region.ready md l.toArray listed).contains i=true) (hu:underB md l.toArray l.length last i=true) (hc:closedB md l.toArray listed=true)
  (hQ:∀ c a w,Q (.panic c) (a.put oi.dst v) w→Q (.panic c) a w) (hw:Region.wanted oi (yielded l.toArray a.tmps)=true) (hS:S w) (hy:∀ w,S w→(execOp a.eval oi).run P w=.ok (.value v) w)
  (h:wpAnyL P md l.toArray Q S last fuel (listed.setIfInBounds i true) (a.put oi.dst v) w):wpAnyL P md l.toArray Q S last (fuel+1) listed a w:=by
 have hi':l.toArray[i]? = some oi:=by rw [nthOp_get];exact hi
 exact wpAnyL_first hi' (Region.noSelect_spec hs) hQ _ hu fuel listed a w (closedB_spec hc) (Region.free_spec hi' hf) (by simpa using hr) (Or.inl ⟨hw,hy⟩) hS h
theorem last_call {P:Program} {md:Region.Mode} {S:World→Prop} {Q:Exit→Act→World→Prop} {fuel last:Nat} {listed:Array Bool} {a:Act} {w:World} {oi:Oper} {l:List Oper} (i:Nat) (hi:nthOp l i=some oi)
  (hr:Region.ready md l.toArray listed=[i])
  (h:∀ K':Act→World→Prop,Shut (∀ a w,S w→(S w→wpAnyL P md l.toArray Q S last fuel (listed.setIfInBounds i true) a w)→K' a w)→if Region.wanted oi (yielded l.toArray a.tmps)=true then Oper.wp P oi a w K' Q else K' (a.put oi.dst undef) w) :
  wpAnyL P md l.toArray Q S last (fuel+1) listed a w:=by
 refine ⟨fun h0=>(by rw [hr] at h0;cases h0),?_⟩
 rw [hr]
 intro j hj
 rw [List.mem_singleton] at hj
 subst hj
 exact wpOp_step (by rw [nthOp_get];exact hi) (fun K' hK=>h K' (fun a w hS hW=>hK a w ⟨.inr hS,hW hS⟩))
theorem last_two {P:Program} {md:Region.Mode} {S:World→Prop} {Q:Exit→Act→World→Prop} {fuel last:Nat} {listed:Array Bool} {a:Act} {w:World} {oi oj:Oper} {l:List Oper} (i j:Nat) (hi:nthOp l i=some oi) (hj:nthOp l j=some oj)
  (hr:Region.ready md l.toArray listed=[i,j])
  (h:∀ K':Act→World→Prop,Shut (∀ a w,S w→(S w→wpAnyL P md l.toArray Q S last fuel (listed.setIfInBounds i true) a w)→K' a w)→if Region.wanted oi (yielded l.toArray a.tmps)=true then Oper.wp P oi a w K' Q else K' (a.put oi.dst undef) w)
  (h2:∀ K':Act→World→Prop,Shut (∀ a w,S w→(S w→wpAnyL P md l.toArray Q S last fuel (listed.setIfInBounds j true) a w)→K' a w)→if Region.wanted oj (yielded l.toArray a.tmps)=true then Oper.wp P oj a w K' Q else K' (a.put oj.dst undef) w) :
  wpAnyL P md l.toArray Q S last (fuel+1) listed a w:=by
 refine ⟨fun h0=>(by rw [hr] at h0;cases h0),?_⟩
 rw [hr]
 intro k hk
 rcases List.mem_cons.1 hk with rfl | hk
 ·exact wpOp_step (by rw [nthOp_get];exact hi) (fun K' hK=>h K' (fun a w hS hW=>hK a w ⟨.inr hS,hW hS⟩))
 ·obtain rfl:=List.mem_singleton.1 hk
  exact wpOp_step (by rw [nthOp_get];exact hj) (fun K' hK=>h2 K' (fun a w hS hW=>hK a w ⟨.inr hS,hW hS⟩))
theorem last_end {P:Program} {md:Region.Mode} {S:World→Prop} {Q:Exit→Act→World→Prop} {fuel:Nat} {listed:Array Bool} {a:Act} {w:World} {oi:Oper} {l:List Oper} (i:Nat) (hi:nthOp l i=some oi)
  (hr:Region.ready md l.toArray listed=[i]) (hd:Region.ready md l.toArray (listed.setIfInBounds i true)=[])
  (h:∀ K':Act→World→Prop,Shut (∀ a w,Q .normal a w→K' a w)→if Region.wanted oi (yielded l.toArray a.tmps)=true then Oper.wp P oi a w K' Q else K' (a.put oi.dst undef) w) :
  wpAnyL P md l.toArray Q S i (fuel+1) listed a w:=by
 refine ⟨fun h0=>(by rw [hr] at h0;cases h0),?_⟩
 rw [hr]
 intro j hj
 rw [List.mem_singleton] at hj
 subst hj
 exact wpOp_step (by rw [nthOp_get];exact hi) (fun K' hK=>h K' (fun a w hQ=>hK a w ⟨.inl rfl,wpAnyL_done hd hQ _⟩))
theorem lyes {P:Program} {md:Region.Mode} {S:World→Prop} {Q:Exit→Act→World→Prop} {fuel last:Nat} {listed:Array Bool} {a a':Act} {w:World} {v:Value} {oi:Oper} {l:List Oper} (i:Nat)
  (h:wpAnyL P md l.toArray Q S last fuel (listed.setIfInBounds i true) a' w) (hi:nthOp l i=some oi:=by rfl) (hy:∀ w,S w→(execOp a.eval oi).run P w=.ok (.value v) w:=by (intro w hSw;(try dsimp only at hSw);go_simp;(try with_reducible rfl)))
  (ha:a.put oi.dst v=a':=by (simp only [Act.put,List.setIfInBounds_toArray,List.set];exact rfl)) (hs:Region.noSelect l.toArray=true:=by kernel_rfl) (hf:Region.free md l.toArray listed i=true:=by kernel_rfl) (hr:(Region.ready md l.toArray listed).contains i=true:=by kernel_rfl) (hu:underB md l.toArray l.length last i=true:=by kernel_rfl) (hc:closedB md l.toArray listed=true:=by kernel_rfl)
  (hQ:∀ c a w,Q (.panic c) (a.put oi.dst v) w→Q (.panic c) a w:=by exact fun _ _ _ h=>h) (hw:Region.wanted oi (yielded l.toArray a.tmps)=true:=by rfl) (hS:S w:=by assumption):wpAnyL P md l.toArray Q S last (fuel+1) listed a w:=by
 subst ha
 exact last_yes i hi hs hf hr hu hc hQ hw hS hy h
theorem hnow {P:Program} {md:Region.Mode} {S:World→Prop} {Q:Exit→Act→World→Prop} {fuel:Nat} {listed:Array Bool} {a a':Act} {w:World} {v:Value} {oi:Oper} {l:List Oper} (i:Nat)
  (h:wpAnyH P md l.toArray Q S fuel (listed.setIfInBounds i true) a' w) (hi:nthOp l i=some oi:=by rfl) (hy:(execOp a.eval oi).run P w=.ok (.value v) w:=by (go_simp;(try with_reducible rfl)))
  (ha:a.put oi.dst v=a':=by (simp only [Act.put,List.setIfInBounds_toArray,List.set];exact rfl)) (hr:Region.ready md l.toArray listed=[i]:=by kernel_rfl)
  (hw:Region.wanted oi (yielded l.toArray a.tmps)=true:=by rfl) (hS:S w:=by assumption):wpAnyH P md l.toArray Q S (fuel+1) listed a w:=by
 subst ha
 have hi':l.toArray[i]? = some oi:=by rw [nthOp_get];exact hi
 refine ⟨fun h0=>(by rw [hr] at h0;cases h0),?_⟩
 rw [hr]
 intro j hj
 rw [List.mem_singleton] at hj
 subst hj
 have hY:YieldsIf P l.toArray (fun w'=>w'=w) oi v a:=Or.inl ⟨hw,fun w' e=>by subst e;exact hy⟩
 exact hY.wpOp hi' rfl ⟨hS,h⟩
end
section
open Go.RowKit Go.Shelf

def rowT (w:World) (k:Nat):Prop:=∃ cs t,w.heap[k]? = some (.cells cs t (0,0))∧(t=80∨t=78∨t=83)
def mkrX (C b:Nat) (w:World) (k:Nat):Prop:=k=b∨(C≤k∧rowT w k)
structure MkP (C b:Nat) (w:World) (v0 v1 v2 v3:Value) (p:Pd) (zs:List (Qd × Value)):Prop where
 blk:Blk w b #[v0,v1,v2,v3]
 hb:b < C
 hC:C≤w.heap.size
 z:zs.map (·.1)=p.q
 r0:w.ownsRow C 80 9 v0 p.l.length (p.l.flatMap St.cells)
 r1:w.ownsRow C 78 2 v1 p.g.length (p.g.flatMap Rl.cells)
 r2:w.ownsRow C 78 2 v2 p.h.length (p.h.flatMap Rl.cells)
 r3:w.ownsRow C 83 6 v3 zs.length ((zs.map qz).flatMap Qv.cells)
 rw:∀ z∈zs,w.ownsRow C 9 1 z.2 z.1.us.length (strs z.1.us)
 ne:∀ k,some k=v1.ownBlock→some k≠v2.ownBlock
theorem own_type {w:World} {base size n g:Nat} {e:TypeId} {v:Value} {xs:List Value} (h:w.ownsRow base e size v n xs) (hg:v.ownBlock=some g):base≤g∧∃ cs,w.heap[g]? = some (.cells cs e (0,0)):=by
 rcases h.2 with ⟨rfl,_⟩ | ⟨g',cap,cur,rfl,hb,hh,_⟩
 ·cases hg
 ·injection hg with hg
  dsimp only at hg
  subst hg
  exact ⟨hb,cur,hh⟩
theorem type_ne {w:World} {g g':Nat} {cs cs':Array Value} {t t':TypeId} (h:w.heap[g]? = some (.cells cs t (0,0))) (h':w.heap[g']? = some (.cells cs' t' (0,0))) (hne:¬ t=t'):¬ g=g':=by
 rintro rfl
 rw [h] at h'
 injection h' with h'
 injection h' with _ h' _
 exact hne h'
theorem MkP.kp {C b:Nat} {w w':World} {v0 v1 v2 v3:Value} {p:Pd} {zs:List (Qd × Value)} (h:MkP C b w v0 v1 v2 v3 p zs) {X:Nat→Prop} (k:Kp X w w') (hb:¬ X b) (hX:∀ g,C≤g→X g→¬ rowT w g∧∀ cs,w.heap[g]? ≠ some (.cells cs 9 (0,0))):MkP C b w' v0 v1 v2 v3 p zs:=by
 have hr:∀ {e:TypeId} {size n:Nat} {v:Value} {xs:List Value},w.ownsRow C e size v n xs→(e=80∨e=78∨e=83)→w'.ownsRow C e size v n xs:=fun ho he=>k.own ho (fun g hg hx=>by
  obtain ⟨h1,cs,h2⟩:=own_type ho hg
  exact (hX g h1 hx).1 ⟨cs,_,h2,he⟩)
 exact ⟨k.blk h.blk hb,h.hb,Nat.le_trans h.hC k.size,h.z,hr h.r0 (.inl rfl),hr h.r1 (.inr (.inl rfl)),hr h.r2 (.inr (.inl rfl)),hr h.r3 (.inr (.inr rfl)),fun z hz=>k.own (h.rw z hz) (fun g hg hx=>by
  obtain ⟨h1,cs,h2⟩:=own_type (h.rw z hz) hg
  exact (hX g h1 hx).2 cs h2),h.ne⟩
theorem MkP.below {C b:Nat} {w w':World} {v0 v1 v2 v3:Value} {p:Pd} {zs:List (Qd × Value)} (h:MkP C b w v0 v1 v2 v3 p zs) (hb:Below w.heap.size w w'):MkP C b w' v0 v1 v2 v3 p zs :=
 h.kp (Kp.of_below (X:=fun _=>False) hb) id (fun _ _ hx=>hx.elim)
theorem MkP.pol {C b:Nat} {w:World} {v0 v1 v2 v3:Value} {p:Pd} {zs:List (Qd × Value)} (h:MkP C b w v0 v1 v2 v3 p zs):PolD w v0 v1 v2 v3 p zs :=
 ⟨h.z,(Sl.of_own h.r0).a,(Sl.of_own h.r1).a,(Sl.of_own h.r2).a,(Sl.of_own h.r3).a,fun z hz=>(Sl.of_own (h.rw z hz)).a⟩
def resL (y:Pd × Int × Int):Int × Int:=if y.2.2≠0 then y.2 else if fitsD y.1=true then (y.2.1,0) else (1,5)
def LineP (C b:Nat) (w:World) (y:Pd × Int × Int) (e:Ending) (w':World):Prop :=
 e=.returned (.tuple #[.int .i64 (resL y).1,.int .i64 (resL y).2])∧Kp (mkrX C b w) w w'∧((resL y).2=0→∃ v0 v1 v2 v3 zs,MkP C b w' v0 v1 v2 v3 y.1 zs)
theorem resL_bad {y:Pd × Int × Int} (h:¬ y.2.2=0):resL y=y.2:=if_pos h
theorem resL_fits {y:Pd × Int × Int} (h:y.2.2=0) (hf:fitsD y.1=true):resL y=(y.2.1,0):=by unfold resL;rw [if_neg (fun x=>x h),if_pos hf]
theorem resL_many {y:Pd × Int × Int} (h:y.2.2=0) (hf:fitsD y.1=false):resL y=(1,5):=by unfold resL;rw [if_neg (fun x=>x h),hf];rfl
theorem lineT_bad {p:Pd} {s:ByteArray} {t:List Tok × Int × Int} (h:¬ t.2.2=0):lineT p s t=(p,t.2.1,t.2.2):=if_pos h
theorem lineT_nil {p:Pd} {s:ByteArray} {i:Int}:lineT p s ([],i,0)=(p,i,0):=by unfold lineT;rw [if_neg (fun h=>h rfl)]
theorem lineT_ask {p:Pd} {s:ByteArray} {x:Tok} {r:List Tok} {i:Int} (h:x.tx=wAlways∨x.tx=wCan):lineT p s (x :: r,i,0)=({ p with q:=p.q++[(parseQ s).1] },(parseQ s).2):=by
 unfold lineT;rw [if_neg (fun h=>h rfl)];exact if_pos h
theorem lineT_grow {p:Pd} {s:ByteArray} {x:Tok} {r:List Tok} {i:Int} (h:¬ (x.tx=wAlways∨x.tx=wCan)) (h2:x.tx=wGrow) :
  lineT p s (x :: r,i,0)=({ p with g:=insAllR [] (p.g++[(boundT (x :: r) (endOf s)).1]) },(boundT (x :: r) (endOf s)).2):=by
 unfold lineT;rw [if_neg (fun h=>h rfl)];dsimp only;rw [if_neg h,if_pos h2]
theorem lineT_shrink {p:Pd} {s:ByteArray} {x:Tok} {r:List Tok} {i:Int} (h:¬ (x.tx=wAlways∨x.tx=wCan)) (h2:¬ x.tx=wGrow) (h3:x.tx=wShrink) :
  lineT p s (x :: r,i,0)=({ p with h:=insAllR [] (p.h++[(boundT (x :: r) (endOf s)).1]) },(boundT (x :: r) (endOf s)).2):=by
 unfold lineT;rw [if_neg (fun h=>h rfl)];dsimp only;rw [if_neg h,if_neg h2,if_pos h3]
theorem lineT_stmt {p:Pd} {s:ByteArray} {x:Tok} {r:List Tok} {i:Int} (h:¬ (x.tx=wAlways∨x.tx=wCan)) (h2:¬ x.tx=wGrow) (h3:¬ x.tx=wShrink) :
  lineT p s (x :: r,i,0)=({ p with l:=insAll [] (p.l++[(parseS s).1]) },(parseS s).2):=by
 unfold lineT;rw [if_neg (fun h=>h rfl)];dsimp only;rw [if_neg h,if_neg h2,if_neg h3]
theorem MkP.row {C b o:Nat} {w w':World} {v0 v1 v2 v3 u:Value} {p:Pd} {zs:List (Qd × Value)} (h:MkP C b w v0 v1 v2 v3 p zs) {v:Value}
  (k:Kp (fun k=>some k=v.ownBlock) w w') {e:TypeId} {size n:Nat} {x:Value} {xs:List Value} (hx:w.ownsRow C e size x n xs) (hne:∀ k,some k=v.ownBlock→some k≠x.ownBlock):(w'.setCell ⟨b,o,none⟩ u).ownsRow C e size x n xs :=
 (Kp.set (X:=fun k=>k=b) rfl).own (k.own hx (fun g hg e=>hne g e hg.symm)) (fun g hg e=>by have:=(own_type hx hg).1;have:=h.hb;omega)
theorem own_ne_type {w:World} {B size size' n n':Nat} {e e':TypeId} {v v':Value} {xs xs':List Value} (h:w.ownsRow B e size v n xs) (h':w.ownsRow B e' size' v' n' xs') (hne:¬ e=e'):∀ k,some k=v.ownBlock→some k≠v'.ownBlock:=fun k h1 h2=>by
 obtain ⟨_,cs,hc⟩:=own_type h h1.symm
 obtain ⟨_,cs',hc'⟩:=own_type h' h2.symm
 exact type_ne hc hc' hne rfl
theorem ne_sq:¬ (80:TypeId)=83:=by decide
theorem ne_sr:¬ (80:TypeId)=78:=by decide
theorem ne_rq:¬ (78:TypeId)=83:=by decide
theorem ne_ts:¬ (9:TypeId)=80:=by decide
theorem ne_tr:¬ (9:TypeId)=78:=by decide
theorem ne_tq:¬ (9:TypeId)=83:=by decide
theorem MkP.put0 {C b:Nat} {w w':World} {v0 v1 v2 v3 u:Value} {p:Pd} {zs:List (Qd × Value)} (h:MkP C b w v0 v1 v2 v3 p zs) (k:Kp (fun k=>some k=v0.ownBlock) w w') {l:List St} (ho:w'.ownsRow C 80 9 u l.length (l.flatMap St.cells)) :
  MkP C b (w'.setCell ⟨b,0,none⟩ u) u v1 v2 v3 { p with l:=l } zs:=by
 have hb0:some b≠v0.ownBlock:=fun e=>by have:=(own_type h.r0 e.symm).1;have:=h.hb;omega
 refine ⟨((k.blk h.blk hb0).put (o:=0) (by simp)).congr rfl,h.hb,by simpa using Nat.le_trans h.hC k.size,h.z,?_,h.row k h.r1 (own_ne_type h.r0 h.r1 ne_sr),h.row k h.r2 (own_ne_type h.r0 h.r2 ne_sr),h.row k h.r3 (own_ne_type h.r0 h.r3 ne_sq),fun z hz=>h.row k (h.rw z hz) (own_ne_type h.r0 (h.rw z hz) (fun e=>ne_ts e.symm)),h.ne⟩
 exact (Kp.set (X:=fun k=>k=b) rfl).own ho (fun g hg e=>by have:=(own_type ho hg).1;have:=h.hb;omega)
theorem MkP.put1 {C b:Nat} {w w':World} {v0 v1 v2 v3 u:Value} {p:Pd} {zs:List (Qd × Value)} (h:MkP C b w v0 v1 v2 v3 p zs) (k:Kp (fun k=>some k=v1.ownBlock) w w') {l:List Rl} (ho:w'.ownsRow C 78 2 u l.length (l.flatMap Rl.cells)) (hn:∀ k,some k=u.ownBlock→some k≠v2.ownBlock) :
  MkP C b (w'.setCell ⟨b,1,none⟩ u) v0 u v2 v3 { p with g:=l } zs:=by
 have hb0:some b≠v1.ownBlock:=fun e=>by have:=(own_type h.r1 e.symm).1;have:=h.hb;omega
 refine ⟨((k.blk h.blk hb0).put (o:=1) (by simp)).congr rfl,h.hb,by simpa using Nat.le_trans h.hC k.size,h.z,h.row k h.r0 (own_ne_type h.r1 h.r0 (fun e=>ne_sr e.symm)),?_,h.row k h.r2 h.ne,h.row k h.r3 (own_ne_type h.r1 h.r3 ne_rq),fun z hz=>h.row k (h.rw z hz) (own_ne_type h.r1 (h.rw z hz) (fun e=>ne_tr e.symm)),hn⟩
 exact (Kp.set (X:=fun k=>k=b) rfl).own ho (fun g hg e=>by have:=(own_type ho hg).1;have:=h.hb;omega)
theorem MkP.put2 {C b:Nat} {w w':World} {v0 v1 v2 v3 u:Value} {p:Pd} {zs:List (Qd × Value)} (h:MkP C b w v0 v1 v2 v3 p zs) (k:Kp (fun k=>some k=v2.ownBlock) w w') {l:List Rl} (ho:w'.ownsRow C 78 2 u l.length (l.flatMap Rl.cells)) (hn:∀ k,some k=v1.ownBlock→some k≠u.ownBlock) :
  MkP C b (w'.setCell ⟨b,2,none⟩ u) v0 v1 u v3 { p with h:=l } zs:=by
 have hb0:some b≠v2.ownBlock:=fun e=>by have:=(own_type h.r2 e.symm).1;have:=h.hb;omega
 refine ⟨((k.blk h.blk hb0).put (o:=2) (by simp)).congr rfl,h.hb,by simpa using Nat.le_trans h.hC k.size,h.z,h.row k h.r0 (own_ne_type h.r2 h.r0 (fun e=>ne_sr e.symm)),h.row k h.r1 (fun g h1 h2=>h.ne g h2 h1),?_,h.row k h.r3 (own_ne_type h.r2 h.r3 ne_rq),fun z hz=>h.row k (h.rw z hz) (own_ne_type h.r2 (h.rw z hz) (fun e=>ne_tr e.symm)),hn⟩
 exact (Kp.set (X:=fun k=>k=b) rfl).own ho (fun g hg e=>by have:=(own_type ho hg).1;have:=h.hb;omega)
theorem MkP.put3 {C b:Nat} {w w':World} {v0 v1 v2 v3 u v:Value} {p:Pd} {zs:List (Qd × Value)} {q:Qd} (h:MkP C b w v0 v1 v2 v3 p zs) (hw:w.ownsRow C 9 1 v q.us.length (strs q.us)) (k:Kp (fun k=>some k=v3.ownBlock) w w')
  (ho:w'.ownsRow C 83 6 u (zs.length+1) ((zs.map qz).flatMap Qv.cells++(qz (q,v)).cells)) :
  MkP C b (w'.setCell ⟨b,3,none⟩ u) v0 v1 v2 u { p with q:=p.q++[q] } (zs++[(q,v)]):=by
 have hb0:some b≠v3.ownBlock:=fun e=>by have:=(own_type h.r3 e.symm).1;have:=h.hb;omega
 refine ⟨((k.blk h.blk hb0).put (o:=3) (by simp)).congr rfl,h.hb,by simpa using Nat.le_trans h.hC k.size,by simp [h.z],h.row k h.r0 (own_ne_type h.r3 h.r0 (fun e=>ne_sq e.symm)),h.row k h.r1 (own_ne_type h.r3 h.r1 (fun e=>ne_rq e.symm)),h.row k h.r2 (own_ne_type h.r3 h.r2 (fun e=>ne_rq e.symm)),?_,fun z hz=>?_,h.ne⟩
 ·have e1:(zs++[(q,v)]).length=zs.length+1:=by simp
  have e2:((zs++[(q,v)]).map qz).flatMap Qv.cells=(zs.map qz).flatMap Qv.cells++(qz (q,v)).cells:=by simp
  rw [e1,e2]
  exact (Kp.set (X:=fun k=>k=b) rfl).own ho (fun g hg e=>by have:=(own_type ho hg).1;have:=h.hb;omega)
 ·rcases List.mem_append.1 hz with hz | hz
  ·exact h.row k (h.rw z hz) (own_ne_type h.r3 (h.rw z hz) (fun e=>ne_tq e.symm))
  ·obtain rfl:=List.mem_singleton.1 hz
   exact h.row k hw (own_ne_type h.r3 hw (fun e=>ne_tq e.symm))
end
section
open Go.RowKit Go.Shelf

theorem qy_infoP:(Tryz.prog.info? 83).map (fun i=>(i.zero,i.size,i.bytes))=some (some (.agg #[.int .i64 0,.string emp,.string emp,.string emp,.string emp,.slice none 0 0]),6,96):=by kernel_rfl
theorem qv_one (q:Qv) (h:∃ a n c,q.w=.slice a n c):∀ u∈q.cells,u.oneCell'=true:=fun u hu=>by
 obtain ⟨a,n,c,h⟩:=h
 simp only [Qv.cells,List.mem_cons,List.not_mem_nil,or_false] at hu
 rcases hu with rfl | rfl | rfl | rfl | rfl | rfl <;> first | rfl | (rw [h];rfl)
theorem tx_eq {a b:ByteArray} (h:a=b):(a.toList == bl b)=true:=by rw [toList_bl,h];exact beq_iff_eq.2 rfl
theorem tx_ne {a b:ByteArray} (h:¬ a=b):(a.toList == bl b)=false:=by rw [toList_bl,beq_eq_false_iff_ne];exact fun e=>h (bl_inj.1 e)
set_option maxRecDepth 100000 in
set_option maxHeartbeats 4000000 in
theorem maker_line_ask (s:ByteArray) (C b:Nat) (v0 v1 v2 v3:Value) (p:Pd) (zs:List (Qd × Value)) (w:World) (hM:MkP C b w v0 v1 v2 v3 p zs) (hg:Gl w) (hs:s.size≤1000000) (hok:OkP p) (hf:fitsD p=true) (x:Tok) (r:List Tok) (ti:Int) (ht:tokens (bl s)=(x :: r,ti,0)) (t1:x.tx=wAlways) :
  Calls Tryz.prog 68 #[.pointer (some ⟨b,0,none⟩),.string s] w fun e w'=>LineP C b w (lineP p s) e w':=by
 have HG:=Lib.hid hg
 obtain ⟨a0,c0,rfl⟩:=own_form hM.r0
 obtain ⟨a1,c1,rfl⟩:=own_form hM.r1
 obtain ⟨a2,c2,rfl⟩:=own_form hM.r2
 obtain ⟨a3,c3,rfl⟩:=own_form hM.r3
 have HM:=Lib.hid hM
 obtain ⟨n0,n1,n2,n3⟩:=fits_few hf
 have HZL:=Lib.hid (show zs.length=p.q.length by rw [← hM.z,List.length_map])
 have HF:=Lib.hid hf
 have TK:=Lib.hid (scan_Tokens_any s w hg (by omega))
 have E:=Lib.hid (show lineP p s=lineT p s (tokens (bl s)) from rfl)
 generalize lineP p s=res at E ⊢
 clear hg hf hM
 have hto:=tokens_ok (bl s)
 rw [ht] at E TK hto
 clear ht
 dsimp only at hto
 go_enter Tryz.func68,Tryz.ntmps68
 go_wp2_with fail
 refine TK.out.mono ?_
 rintro e w1 ⟨va,rfl,hown1,hb1⟩
 dsimp only at hown1
 obtain ⟨sa,sc,rfl⟩:=own_form hown1
 have HS1:=Lib.hid (Sl.of_own hown1)
 have HB1:=Lib.hid hb1
 clear hown1 hb1 TK
 have dl:((((r.length:Int)+1) == 0))=false:=by rw [beq_eq_false_iff_ne];omega
 obtain ⟨tb,off,cap,he1,hc1,hm1,hb1,hx1⟩:=HS1.out.pos (by simp)
 simp only [Value.slice.injEq] at he1
 obtain ⟨rfl,_,rfl⟩:=he1
 obtain ⟨p0,p1,p2⟩:=tk_head hx1
 have TX:=Lib.hid (show (⟨x.text.toArray⟩:ByteArray)=x.tx from rfl)
 rw [TX.out] at p1
 clear hx1 TX
 have e1:(x.tx.toList == [97,108,119,97,121,115])=true:=tx_eq t1
 have A1:=Lib.hid (show x.tx=wAlways∨x.tx=wCan from .inl t1)
 clear t1
 go_wp2_with fail
 obtain ⟨WB,hWB⟩:∃ W,W=w1.alloc (.cells #[.int .i64 0,.string emp,.string emp,.string emp,.string emp,.slice none 0 0] 83):=⟨_,rfl⟩
 have hbB:Below w1.heap.size w1 WB:=by rw [hWB];exact (Below.refl _ _).alloc (Nat.le_refl _) _
 have HBQ:=Lib.hid (show Blk WB w1.heap.size #[.int .i64 0,.string emp,.string emp,.string emp,.string emp,.slice none 0 0] by rw [hWB];exact Blk.new w1 _ _)
 have HSZ:=Lib.hid (show WB.heap.size=w1.heap.size+1 by rw [hWB];simp)
 have HBB:=Lib.hid (HB1.out.trans (hbB.mono HB1.out.size))
 have hgq0:w.heap.size≤w1.heap.size:=HB1.out.size
 have hGB:=Lib.hid (HG.out.below HBB.out)
 have E:=Lib.hid (E.out.trans (lineT_ask (p:=p) (s:=s) (r:=r) (i:=ti) A1.out))
 have QP:=Lib.hid (query_ParseO s WB (by omega) hGB.out)
 have HOK:=Lib.hid (fun (h:(parseQ s).2.2=0)=>show OkP { p with q:=p.q++[(parseQ s).1] } from ⟨hok.l,hok.g,hok.h,fun y hy=>(List.mem_append.1 hy).elim (hok.q y) (fun h'=>by rw [List.mem_singleton.1 h'];exact (parse_goodQ s h).1)⟩)
 generalize parseQ s=pq at E QP HOK
 obtain ⟨⟨k,⟨x1,x2⟩,⟨x3,x4⟩,us⟩,at0,y0⟩:=pq
 dsimp only at E QP HOK
 rw [← hWB]
 clear hWB hbB hGB
 refine QP.out.mono ?_
 rintro e w2 ⟨v,rfl,hos,hb2⟩
 dsimp only at hos ⊢
 obtain ⟨vo,vc,rfl⟩:=own_form hos
 have HOS:=Lib.hid hos
 clear hos
 have HB2:=Lib.hid (HBB.out.trans (hb2.mono HBB.out.size))
 have HBQ2:=Lib.hid (HBQ.out.below hb2)
 clear hb2 QP HBQ HBB
 obtain ⟨cq,fq,zq⟩:=HBQ2.out
 go_wp2_with fail
 clear cq fq zq
 have HBQ3:=Lib.hid (show Blk ((((((w2.setCell ⟨w1.heap.size,0,none⟩ (.int .i64 k)).setCell ⟨w1.heap.size,1,none⟩ (.string x1)).setCell ⟨w1.heap.size,2,none⟩ (.string x2)).setCell ⟨w1.heap.size,3,none⟩ (.string x3)).setCell ⟨w1.heap.size,4,none⟩ (.string x4)).setCell ⟨w1.heap.size,5,none⟩ (.slice vo us.length vc)) w1.heap.size #[.int .i64 k,.string x1,.string x2,.string x3,.string x4,.slice vo us.length vc] from ((((((HBQ2.out.put (o:=0) (v:=.int .i64 k) (by simp)).put (o:=1) (v:=.string x1) (by simp)).put (o:=2) (v:=.string x2) (by simp)).put (o:=3) (v:=.string x3) (by simp)).put (o:=4) (v:=.string x4) (by simp)).put (o:=5) (v:=.slice vo us.length vc) (by simp)).congr rfl)
 have HB3:=Lib.hid ((((((HB2.out.setCell (p:=⟨w1.heap.size,0,none⟩) hgq0 (.int .i64 k)).setCell (p:=⟨w1.heap.size,1,none⟩) hgq0 (.string x1)).setCell (p:=⟨w1.heap.size,2,none⟩) hgq0 (.string x2)).setCell (p:=⟨w1.heap.size,3,none⟩) hgq0 (.string x3)).setCell (p:=⟨w1.heap.size,4,none⟩) hgq0 (.string x4)).setCell (p:=⟨w1.heap.size,5,none⟩) hgq0 (.slice vo us.length vc))
 have HO0:=HOS.out
 have HO1:=(Kp.set (X:=fun k=>k=w1.heap.size) (o:=0) (v:=.int .i64 k) rfl).own HO0 (fun g hg e=>by have:=(own_type HO0 hg).1;have:=HSZ.out;omega)
 have HO2:=(Kp.set (X:=fun k=>k=w1.heap.size) (o:=1) (v:=.string x1) rfl).own HO1 (fun g hg e=>by have:=(own_type HO1 hg).1;have:=HSZ.out;omega)
 have HO3:=(Kp.set (X:=fun k=>k=w1.heap.size) (o:=2) (v:=.string x2) rfl).own HO2 (fun g hg e=>by have:=(own_type HO2 hg).1;have:=HSZ.out;omega)
 have HO4:=(Kp.set (X:=fun k=>k=w1.heap.size) (o:=3) (v:=.string x3) rfl).own HO3 (fun g hg e=>by have:=(own_type HO3 hg).1;have:=HSZ.out;omega)
 have HO5:=(Kp.set (X:=fun k=>k=w1.heap.size) (o:=4) (v:=.string x4) rfl).own HO4 (fun g hg e=>by have:=(own_type HO4 hg).1;have:=HSZ.out;omega)
 have HO6:=(Kp.set (X:=fun k=>k=w1.heap.size) (o:=5) (v:=.slice vo us.length vc) rfl).own HO5 (fun g hg e=>by have:=(own_type HO5 hg).1;have:=HSZ.out;omega)
 have HOW:=Lib.hid (own_mono HO6 (show C≤WB.heap.size by have:=HSZ.out;have:=HM.out.hC;omega))
 clear HOS HO0 HO1 HO2 HO3 HO4 HO5 HO6
 obtain ⟨W3,hW3⟩:∃ V,V=((((((w2.setCell ⟨w1.heap.size,0,none⟩ (.int .i64 k)).setCell ⟨w1.heap.size,1,none⟩ (.string x1)).setCell ⟨w1.heap.size,2,none⟩ (.string x2)).setCell ⟨w1.heap.size,3,none⟩ (.string x3)).setCell ⟨w1.heap.size,4,none⟩ (.string x4)).setCell ⟨w1.heap.size,5,none⟩ (.slice vo us.length vc)):=⟨_,rfl⟩
 rw [← hW3] at HBQ3 HB3 HOW ⊢
 clear hW3 HB2 HBQ2
 have HM3:=Lib.hid (HM.out.below HB3.out)
 have hCs:C≤w.heap.size:=HM.out.hC
 refine wp_region_last (S:=fun W=>(∀ o,W.cell? ⟨b,o,none⟩=(#[.slice a0 p.l.length c0,.slice a1 p.g.length c1,.slice a2 p.h.length c2,.slice a3 zs.length c3]:Array Value)[o]?)∧(∀ o,W.cell? ⟨w1.heap.size,o,none⟩=(#[.int .i64 k,.string x1,.string x2,.string x3,.string x4,.slice vo us.length vc]:Array Value)[o]?)) 12 (by kernel_rfl) ⟨(HM3.out.blk.below (below_drew (Below.refl _ _))).1,(HBQ3.out.below (below_drew (Below.refl _ _))).1⟩ (fun hHeld=>?_)
 have hd:=below_drew (Below.refl W3.heap.size W3)
 have HM3:=Lib.hid (HM3.out.below hd)
 have HB3:=Lib.hid (HB3.out.trans (hd.mono HB3.out.size))
 have HBQ3:=Lib.hid (HBQ3.out.below hd)
 have HOW:=Lib.hid (own_below HOW.out hd)
 obtain ⟨W4,hW4⟩:∃ V,V=W3.drew:=⟨_,rfl⟩
 rw [← hW4] at HM3 HB3 HBQ3 hHeld HOW ⊢
 clear hd hW4
 (refine lyes 0 ?_);(refine lyes 1 ?_);(refine lyes 2 ?_);(refine lyes 3 ?_);(refine lyes 4 ?_);(refine lyes 5 ?_);(refine lyes 6 ?_);(try simp only [Act.put,List.setIfInBounds_toArray,List.set])
 (refine last_call 7 rfl (by kernel_rfl) (fun K hK=>?_);go_simp)
 obtain ⟨W5,hW5⟩:∃ V,V=W4.alloc (.cells #[.int .i64 k,.string x1,.string x2,.string x3,.string x4,.slice vo us.length vc] 83):=⟨_,rfl⟩
 obtain ⟨bn,hbn⟩:∃ b,b=W4.heap.size:=⟨_,rfl⟩
 rw [← hW5,← hbn]
 have hbq:Below W4.heap.size W4 W5:=by rw [hW5];exact (Below.refl _ _).alloc (Nat.le_refl _) _
 have HN1:=Lib.hid (show Sl W5 6 (.slice (some ⟨bn,0,none⟩) 1 1) 1 ((qz (⟨k,⟨x1,x2⟩,⟨x3,x4⟩,us⟩,.slice vo us.length vc)).cells) by rw [hW5];exact Sl.new W4 ((qz (⟨k,⟨x1,x2⟩,⟨x3,x4⟩,us⟩,.slice vo us.length vc)).cells) 83 6 1 bn hbn rfl (by simp [maxLen]))
 have HM5:=Lib.hid (HM3.out.below hbq)
 have HB5:=Lib.hid (HB3.out.trans (hbq.mono HB3.out.size))
 have HBQ5:=Lib.hid (HBQ3.out.below hbq)
 have HOW:=Lib.hid (own_below HOW.out hbq)
 clear hbq hW5 hbn HM3 HB3 HBQ3
 (refine hK.out _ _ ⟨HM5.out.blk.1,HBQ5.out.1⟩ (fun hHeld=>?_);clear hK K;(try simp only [Act.put,List.setIfInBounds_toArray,List.set]))
 obtain ⟨inf,hin,hs0,hs1,hs2⟩:=info_parts qy_infoP
 have HIN:=Lib.hid hin
 clear hin

 refine last_call 8 rfl (by kernel_rfl) (fun K hK=>?_)
 refine step_row rfl _ _ 24 rfl C 83 inf _ 6 96 Tryz.underlying24 HIN.out hs0 hs1 hs2 (by decide) rfl (by decide) _ zs.length _ rfl HM5.out.r3 _ 1 _ rfl HN1.out.a (qv_one (qz (⟨k,⟨x1,x2⟩,⟨x3,x4⟩,us⟩,.slice vo us.length vc)) ⟨vo,us.length,vc,rfl⟩) (by have:=HZL.out;omega) HM5.out.hC ?_
 intro a5 c5 wc hown5 hg5
 have hneb:some b≠(Value.slice a3 zs.length c3).ownBlock:=fun e=>by have:=(own_type HM5.out.r3 e.symm).1;have:=HM5.out.hb;omega
 have hneq:some w1.heap.size≠(Value.slice a3 zs.length c3).ownBlock:=fun e=>by
  have h1:=own_type HM.out.r3 e.symm
  obtain ⟨_,cs,h2⟩:=h1
  have:=(Array.getElem?_eq_some_iff.1 h2).1
  omega
 have HKG:=Lib.hid (Kp.of_grown (X:=fun k=>some k=(Value.slice a3 zs.length c3).ownBlock) hg5 (fun _ h=>h))
 have HBG:=Lib.hid (HKG.out.blk HM5.out.blk hneb)
 have HQG:=Lib.hid (HKG.out.blk HBQ5.out hneq)
 have HO5:=Lib.hid hown5
 clear hg5 hown5 HN1 HIN hs0 hs1 hs2 hneb hneq
 (refine hK.out _ _ ⟨HBG.out.1,HQG.out.1⟩ (fun hHeld=>?_);clear hK K;(try simp only [Act.put,List.setIfInBounds_toArray,List.set]))
 (refine lyes 9 ?_);(refine lyes 10 ?_);(refine lyes 11 ?_);(try simp only [Act.put,List.setIfInBounds_toArray,List.set])
 obtain ⟨cg,fg,zg⟩:=HBG.out
 (refine last_end 12 rfl (by kernel_rfl) (by kernel_rfl) (fun K hK=>?_);go_simp)
 clear cg fg zg
 have HMP:=Lib.hid (HM5.out.put3 (q:=⟨k,⟨x1,x2⟩,⟨x3,x4⟩,us⟩) (v:=.slice vo us.length vc) HOW.out HKG.out HO5.out)
 have HKP:=Lib.hid (((Kp.of_below (X:=mkrX C b w) HB5.out).trans HKG.out (fun g hg e=>.inr (by
  obtain ⟨h1,cs,h2⟩:=own_type HM.out.r3 e.symm
  exact ⟨h1,cs,_,h2,.inr (.inr rfl)⟩))).trans (Kp.set (X:=fun k=>k=b) (o:=3) (v:=.slice a5 (zs.length+1) c5) rfl) (fun g _ e=>.inl e))
 obtain ⟨wd,hwd⟩:∃ V,V=wc.setCell ⟨b,3,none⟩ (.slice a5 (zs.length+1) c5):=⟨_,rfl⟩
 rw [← hwd] at HMP HKP ⊢
 clear hwd HBG HQG HKG HO5 HM5 HB5 HBQ5 HOW
 refine hK.out _ _ ?_
 clear hK K
 by_cases hy:y0=0
 ·have FT:=Lib.hid (fun W (hb:Below wd.heap.size wd W)=>policy_FitsD (.slice a0 p.l.length c0) (.slice a1 p.g.length c1) (.slice a2 p.h.length c2) (.slice a5 (zs.length+1) c5) { p with q:=p.q++[⟨k,⟨x1,x2⟩,⟨x3,x4⟩,us⟩] } (zs++[(⟨k,⟨x1,x2⟩,⟨x3,x4⟩,us⟩,.slice vo us.length vc)]) W (HMP.out.pol.below hb) ((okP_le (HOK.out hy)).mono (by decide) (by decide)) (by simp;omega))
  have dy:(y0 == 0)=true:=by simp [hy]
  obtain ⟨cb4,fb4,zb4⟩:=HMP.out.blk
  have RF:=Lib.hid (fun (h:fitsD { p with q:=p.q++[⟨k,⟨x1,x2⟩,⟨x3,x4⟩,us⟩] }=true)=>(congrArg resL E.out).trans (resL_fits hy h))
  have RM:=Lib.hid (fun (h:fitsD { p with q:=p.q++[⟨k,⟨x1,x2⟩,⟨x3,x4⟩,us⟩] }=false)=>(congrArg resL E.out).trans (resL_many hy h))
  have EP:=Lib.hid (congrArg Prod.fst E.out)
  have hy0:=Lib.hid hy
  clear E hy
  generalize hfd:fitsD { p with q:=p.q++[⟨k,⟨x1,x2⟩,⟨x3,x4⟩,us⟩] }=fd at FT RF RM
  clear hfd
  go_wp2_with fail
  refine (FT.out _ (Below.refl _ _)).mono ?_
  rintro e wf ⟨rfl,hbf⟩
  have HMF:=Lib.hid (HMP.out.below hbf)
  have HKF:=Lib.hid (HKP.out.trans (Kp.of_below (X:=fun _=>False) hbf) (fun _ _ h=>h.elim))
  clear hbf cb4 fb4 zb4
  cases fd with
  | true =>
   have R:=Lib.hid (RF.out rfl)
   go_wp2
   refine bodyPost_ret (v:=.tuple #[.int .i64 at0,.int .i64 y0]) (by simp [results,Tryz.results68,go_sem]) rfl ?_
   refine ⟨by rw [R.out,← hy0.out],HKF.out,fun _=>?_⟩
   rw [EP.out]
   exact ⟨_,_,_,_,_,HMF.out⟩
  | false =>
   have R:=Lib.hid (RM.out rfl)
   go_wp2
   refine bodyPost_ret (v:=.tuple #[.int .i64 1,.int .i64 5]) (by simp [results,Tryz.results68,go_sem]) rfl ?_
   exact ⟨by rw [R.out],HKF.out,fun h=>by rw [R.out] at h;cases h⟩
 ·have dy:(y0 == 0)=false:=by simp [hy]
  have R:=Lib.hid ((congrArg resL E.out).trans (resL_bad hy))
  have hyn:=Lib.hid hy
  clear hy
  go_wp2
  refine bodyPost_ret (v:=.tuple #[.int .i64 at0,.int .i64 y0]) (by simp [results,Tryz.results68,go_sem]) rfl ?_
  exact ⟨by rw [R.out],HKP.out,fun h=>by rw [R.out] at h;exact absurd h hyn.out⟩
end
section
open Go.RowKit Go.Shelf

set_option maxRecDepth 100000 in
set_option maxHeartbeats 4000000 in
theorem maker_line_can (s:ByteArray) (C b:Nat) (v0 v1 v2 v3:Value) (p:Pd) (zs:List (Qd × Value)) (w:World) (hM:MkP C b w v0 v1 v2 v3 p zs) (hg:Gl w) (hs:s.size≤1000000) (hok:OkP p) (hf:fitsD p=true) (x:Tok) (r:List Tok) (ti:Int) (ht:tokens (bl s)=(x :: r,ti,0)) (t1:¬ x.tx=wAlways) (t2:x.tx=wCan) :
  Calls Tryz.prog 68 #[.pointer (some ⟨b,0,none⟩),.string s] w fun e w'=>LineP C b w (lineP p s) e w':=by
 have HG:=Lib.hid hg
 obtain ⟨a0,c0,rfl⟩:=own_form hM.r0
 obtain ⟨a1,c1,rfl⟩:=own_form hM.r1
 obtain ⟨a2,c2,rfl⟩:=own_form hM.r2
 obtain ⟨a3,c3,rfl⟩:=own_form hM.r3
 have HM:=Lib.hid hM
 obtain ⟨n0,n1,n2,n3⟩:=fits_few hf
 have HZL:=Lib.hid (show zs.length=p.q.length by rw [← hM.z,List.length_map])
 have HF:=Lib.hid hf
 have TK:=Lib.hid (scan_Tokens_any s w hg (by omega))
 have E:=Lib.hid (show lineP p s=lineT p s (tokens (bl s)) from rfl)
 generalize lineP p s=res at E ⊢
 clear hg hf hM
 have hto:=tokens_ok (bl s)
 rw [ht] at E TK hto
 clear ht
 dsimp only at hto
 go_enter Tryz.func68,Tryz.ntmps68
 go_wp2_with fail
 refine TK.out.mono ?_
 rintro e w1 ⟨va,rfl,hown1,hb1⟩
 dsimp only at hown1
 obtain ⟨sa,sc,rfl⟩:=own_form hown1
 have HS1:=Lib.hid (Sl.of_own hown1)
 have HB1:=Lib.hid hb1
 clear hown1 hb1 TK
 have dl:((((r.length:Int)+1) == 0))=false:=by rw [beq_eq_false_iff_ne];omega
 obtain ⟨tb,off,cap,he1,hc1,hm1,hb1,hx1⟩:=HS1.out.pos (by simp)
 simp only [Value.slice.injEq] at he1
 obtain ⟨rfl,_,rfl⟩:=he1
 obtain ⟨p0,p1,p2⟩:=tk_head hx1
 have TX:=Lib.hid (show (⟨x.text.toArray⟩:ByteArray)=x.tx from rfl)
 rw [TX.out] at p1
 clear hx1 TX
 have e1:(x.tx.toList == [97,108,119,97,121,115])=false:=tx_ne t1
 have e2:(x.tx.toList == [99,97,110])=true:=tx_eq t2
 have A1:=Lib.hid (show x.tx=wAlways∨x.tx=wCan from .inr t2)
 clear t1 t2
 go_wp2_with fail
 obtain ⟨WB,hWB⟩:∃ W,W=w1.alloc (.cells #[.int .i64 0,.string emp,.string emp,.string emp,.string emp,.slice none 0 0] 83):=⟨_,rfl⟩
 have hbB:Below w1.heap.size w1 WB:=by rw [hWB];exact (Below.refl _ _).alloc (Nat.le_refl _) _
 have HBQ:=Lib.hid (show Blk WB w1.heap.size #[.int .i64 0,.string emp,.string emp,.string emp,.string emp,.slice none 0 0] by rw [hWB];exact Blk.new w1 _ _)
 have HSZ:=Lib.hid (show WB.heap.size=w1.heap.size+1 by rw [hWB];simp)
 have HBB:=Lib.hid (HB1.out.trans (hbB.mono HB1.out.size))
 have hgq0:w.heap.size≤w1.heap.size:=HB1.out.size
 have hGB:=Lib.hid (HG.out.below HBB.out)
 have E:=Lib.hid (E.out.trans (lineT_ask (p:=p) (s:=s) (r:=r) (i:=ti) A1.out))
 have QP:=Lib.hid (query_ParseO s WB (by omega) hGB.out)
 have HOK:=Lib.hid (fun (h:(parseQ s).2.2=0)=>show OkP { p with q:=p.q++[(parseQ s).1] } from ⟨hok.l,hok.g,hok.h,fun y hy=>(List.mem_append.1 hy).elim (hok.q y) (fun h'=>by rw [List.mem_singleton.1 h'];exact (parse_goodQ s h).1)⟩)
 generalize parseQ s=pq at E QP HOK
 obtain ⟨⟨k,⟨x1,x2⟩,⟨x3,x4⟩,us⟩,at0,y0⟩:=pq
 dsimp only at E QP HOK
 rw [← hWB]
 clear hWB hbB hGB
 refine QP.out.mono ?_
 rintro e w2 ⟨v,rfl,hos,hb2⟩
 dsimp only at hos ⊢
 obtain ⟨vo,vc,rfl⟩:=own_form hos
 have HOS:=Lib.hid hos
 clear hos
 have HB2:=Lib.hid (HBB.out.trans (hb2.mono HBB.out.size))
 have HBQ2:=Lib.hid (HBQ.out.below hb2)
 clear hb2 QP HBQ HBB
 obtain ⟨cq,fq,zq⟩:=HBQ2.out
 go_wp2_with fail
 clear cq fq zq
 have HBQ3:=Lib.hid (show Blk ((((((w2.setCell ⟨w1.heap.size,0,none⟩ (.int .i64 k)).setCell ⟨w1.heap.size,1,none⟩ (.string x1)).setCell ⟨w1.heap.size,2,none⟩ (.string x2)).setCell ⟨w1.heap.size,3,none⟩ (.string x3)).setCell ⟨w1.heap.size,4,none⟩ (.string x4)).setCell ⟨w1.heap.size,5,none⟩ (.slice vo us.length vc)) w1.heap.size #[.int .i64 k,.string x1,.string x2,.string x3,.string x4,.slice vo us.length vc] from ((((((HBQ2.out.put (o:=0) (v:=.int .i64 k) (by simp)).put (o:=1) (v:=.string x1) (by simp)).put (o:=2) (v:=.string x2) (by simp)).put (o:=3) (v:=.string x3) (by simp)).put (o:=4) (v:=.string x4) (by simp)).put (o:=5) (v:=.slice vo us.length vc) (by simp)).congr rfl)
 have HB3:=Lib.hid ((((((HB2.out.setCell (p:=⟨w1.heap.size,0,none⟩) hgq0 (.int .i64 k)).setCell (p:=⟨w1.heap.size,1,none⟩) hgq0 (.string x1)).setCell (p:=⟨w1.heap.size,2,none⟩) hgq0 (.string x2)).setCell (p:=⟨w1.heap.size,3,none⟩) hgq0 (.string x3)).setCell (p:=⟨w1.heap.size,4,none⟩) hgq0 (.string x4)).setCell (p:=⟨w1.heap.size,5,none⟩) hgq0 (.slice vo us.length vc))
 have HO0:=HOS.out
 have HO1:=(Kp.set (X:=fun k=>k=w1.heap.size) (o:=0) (v:=.int .i64 k) rfl).own HO0 (fun g hg e=>by have:=(own_type HO0 hg).1;have:=HSZ.out;omega)
 have HO2:=(Kp.set (X:=fun k=>k=w1.heap.size) (o:=1) (v:=.string x1) rfl).own HO1 (fun g hg e=>by have:=(own_type HO1 hg).1;have:=HSZ.out;omega)
 have HO3:=(Kp.set (X:=fun k=>k=w1.heap.size) (o:=2) (v:=.string x2) rfl).own HO2 (fun g hg e=>by have:=(own_type HO2 hg).1;have:=HSZ.out;omega)
 have HO4:=(Kp.set (X:=fun k=>k=w1.heap.size) (o:=3) (v:=.string x3) rfl).own HO3 (fun g hg e=>by have:=(own_type HO3 hg).1;have:=HSZ.out;omega)
 have HO5:=(Kp.set (X:=fun k=>k=w1.heap.size) (o:=4) (v:=.string x4) rfl).own HO4 (fun g hg e=>by have:=(own_type HO4 hg).1;have:=HSZ.out;omega)
 have HO6:=(Kp.set (X:=fun k=>k=w1.heap.size) (o:=5) (v:=.slice vo us.length vc) rfl).own HO5 (fun g hg e=>by have:=(own_type HO5 hg).1;have:=HSZ.out;omega)
 have HOW:=Lib.hid (own_mono HO6 (show C≤WB.heap.size by have:=HSZ.out;have:=HM.out.hC;omega))
 clear HOS HO0 HO1 HO2 HO3 HO4 HO5 HO6
 obtain ⟨W3,hW3⟩:∃ V,V=((((((w2.setCell ⟨w1.heap.size,0,none⟩ (.int .i64 k)).setCell ⟨w1.heap.size,1,none⟩ (.string x1)).setCell ⟨w1.heap.size,2,none⟩ (.string x2)).setCell ⟨w1.heap.size,3,none⟩ (.string x3)).setCell ⟨w1.heap.size,4,none⟩ (.string x4)).setCell ⟨w1.heap.size,5,none⟩ (.slice vo us.length vc)):=⟨_,rfl⟩
 rw [← hW3] at HBQ3 HB3 HOW ⊢
 clear hW3 HB2 HBQ2
 have HM3:=Lib.hid (HM.out.below HB3.out)
 have hCs:C≤w.heap.size:=HM.out.hC
 refine wp_region_last (S:=fun W=>(∀ o,W.cell? ⟨b,o,none⟩=(#[.slice a0 p.l.length c0,.slice a1 p.g.length c1,.slice a2 p.h.length c2,.slice a3 zs.length c3]:Array Value)[o]?)∧(∀ o,W.cell? ⟨w1.heap.size,o,none⟩=(#[.int .i64 k,.string x1,.string x2,.string x3,.string x4,.slice vo us.length vc]:Array Value)[o]?)) 12 (by kernel_rfl) ⟨(HM3.out.blk.below (below_drew (Below.refl _ _))).1,(HBQ3.out.below (below_drew (Below.refl _ _))).1⟩ (fun hHeld=>?_)
 have hd:=below_drew (Below.refl W3.heap.size W3)
 have HM3:=Lib.hid (HM3.out.below hd)
 have HB3:=Lib.hid (HB3.out.trans (hd.mono HB3.out.size))
 have HBQ3:=Lib.hid (HBQ3.out.below hd)
 have HOW:=Lib.hid (own_below HOW.out hd)
 obtain ⟨W4,hW4⟩:∃ V,V=W3.drew:=⟨_,rfl⟩
 rw [← hW4] at HM3 HB3 HBQ3 hHeld HOW ⊢
 clear hd hW4
 (refine lyes 0 ?_);(refine lyes 1 ?_);(refine lyes 2 ?_);(refine lyes 3 ?_);(refine lyes 4 ?_);(refine lyes 5 ?_);(refine lyes 6 ?_);(try simp only [Act.put,List.setIfInBounds_toArray,List.set])
 (refine last_call 7 rfl (by kernel_rfl) (fun K hK=>?_);go_simp)
 obtain ⟨W5,hW5⟩:∃ V,V=W4.alloc (.cells #[.int .i64 k,.string x1,.string x2,.string x3,.string x4,.slice vo us.length vc] 83):=⟨_,rfl⟩
 obtain ⟨bn,hbn⟩:∃ b,b=W4.heap.size:=⟨_,rfl⟩
 rw [← hW5,← hbn]
 have hbq:Below W4.heap.size W4 W5:=by rw [hW5];exact (Below.refl _ _).alloc (Nat.le_refl _) _
 have HN1:=Lib.hid (show Sl W5 6 (.slice (some ⟨bn,0,none⟩) 1 1) 1 ((qz (⟨k,⟨x1,x2⟩,⟨x3,x4⟩,us⟩,.slice vo us.length vc)).cells) by rw [hW5];exact Sl.new W4 ((qz (⟨k,⟨x1,x2⟩,⟨x3,x4⟩,us⟩,.slice vo us.length vc)).cells) 83 6 1 bn hbn rfl (by simp [maxLen]))
 have HM5:=Lib.hid (HM3.out.below hbq)
 have HB5:=Lib.hid (HB3.out.trans (hbq.mono HB3.out.size))
 have HBQ5:=Lib.hid (HBQ3.out.below hbq)
 have HOW:=Lib.hid (own_below HOW.out hbq)
 clear hbq hW5 hbn HM3 HB3 HBQ3
 (refine hK.out _ _ ⟨HM5.out.blk.1,HBQ5.out.1⟩ (fun hHeld=>?_);clear hK K;(try simp only [Act.put,List.setIfInBounds_toArray,List.set]))
 obtain ⟨inf,hin,hs0,hs1,hs2⟩:=info_parts qy_infoP
 have HIN:=Lib.hid hin
 clear hin

 refine last_call 8 rfl (by kernel_rfl) (fun K hK=>?_)
 refine step_row rfl _ _ 24 rfl C 83 inf _ 6 96 Tryz.underlying24 HIN.out hs0 hs1 hs2 (by decide) rfl (by decide) _ zs.length _ rfl HM5.out.r3 _ 1 _ rfl HN1.out.a (qv_one (qz (⟨k,⟨x1,x2⟩,⟨x3,x4⟩,us⟩,.slice vo us.length vc)) ⟨vo,us.length,vc,rfl⟩) (by have:=HZL.out;omega) HM5.out.hC ?_
 intro a5 c5 wc hown5 hg5
 have hneb:some b≠(Value.slice a3 zs.length c3).ownBlock:=fun e=>by have:=(own_type HM5.out.r3 e.symm).1;have:=HM5.out.hb;omega
 have hneq:some w1.heap.size≠(Value.slice a3 zs.length c3).ownBlock:=fun e=>by
  have h1:=own_type HM.out.r3 e.symm
  obtain ⟨_,cs,h2⟩:=h1
  have:=(Array.getElem?_eq_some_iff.1 h2).1
  omega
 have HKG:=Lib.hid (Kp.of_grown (X:=fun k=>some k=(Value.slice a3 zs.length c3).ownBlock) hg5 (fun _ h=>h))
 have HBG:=Lib.hid (HKG.out.blk HM5.out.blk hneb)
 have HQG:=Lib.hid (HKG.out.blk HBQ5.out hneq)
 have HO5:=Lib.hid hown5
 clear hg5 hown5 HN1 HIN hs0 hs1 hs2 hneb hneq
 (refine hK.out _ _ ⟨HBG.out.1,HQG.out.1⟩ (fun hHeld=>?_);clear hK K;(try simp only [Act.put,List.setIfInBounds_toArray,List.set]))
 (refine lyes 9 ?_);(refine lyes 10 ?_);(refine lyes 11 ?_);(try simp only [Act.put,List.setIfInBounds_toArray,List.set])
 obtain ⟨cg,fg,zg⟩:=HBG.out
 (refine last_end 12 rfl (by kernel_rfl) (by kernel_rfl) (fun K hK=>?_);go_simp)
 clear cg fg zg
 have HMP:=Lib.hid (HM5.out.put3 (q:=⟨k,⟨x1,x2⟩,⟨x3,x4⟩,us⟩) (v:=.slice vo us.length vc) HOW.out HKG.out HO5.out)
 have HKP:=Lib.hid (((Kp.of_below (X:=mkrX C b w) HB5.out).trans HKG.out (fun g hg e=>.inr (by
  obtain ⟨h1,cs,h2⟩:=own_type HM.out.r3 e.symm
  exact ⟨h1,cs,_,h2,.inr (.inr rfl)⟩))).trans (Kp.set (X:=fun k=>k=b) (o:=3) (v:=.slice a5 (zs.length+1) c5) rfl) (fun g _ e=>.inl e))
 obtain ⟨wd,hwd⟩:∃ V,V=wc.setCell ⟨b,3,none⟩ (.slice a5 (zs.length+1) c5):=⟨_,rfl⟩
 rw [← hwd] at HMP HKP ⊢
 clear hwd HBG HQG HKG HO5 HM5 HB5 HBQ5 HOW
 refine hK.out _ _ ?_
 clear hK K
 by_cases hy:y0=0
 ·have FT:=Lib.hid (fun W (hb:Below wd.heap.size wd W)=>policy_FitsD (.slice a0 p.l.length c0) (.slice a1 p.g.length c1) (.slice a2 p.h.length c2) (.slice a5 (zs.length+1) c5) { p with q:=p.q++[⟨k,⟨x1,x2⟩,⟨x3,x4⟩,us⟩] } (zs++[(⟨k,⟨x1,x2⟩,⟨x3,x4⟩,us⟩,.slice vo us.length vc)]) W (HMP.out.pol.below hb) ((okP_le (HOK.out hy)).mono (by decide) (by decide)) (by simp;omega))
  have dy:(y0 == 0)=true:=by simp [hy]
  obtain ⟨cb4,fb4,zb4⟩:=HMP.out.blk
  have RF:=Lib.hid (fun (h:fitsD { p with q:=p.q++[⟨k,⟨x1,x2⟩,⟨x3,x4⟩,us⟩] }=true)=>(congrArg resL E.out).trans (resL_fits hy h))
  have RM:=Lib.hid (fun (h:fitsD { p with q:=p.q++[⟨k,⟨x1,x2⟩,⟨x3,x4⟩,us⟩] }=false)=>(congrArg resL E.out).trans (resL_many hy h))
  have EP:=Lib.hid (congrArg Prod.fst E.out)
  have hy0:=Lib.hid hy
  clear E hy
  generalize hfd:fitsD { p with q:=p.q++[⟨k,⟨x1,x2⟩,⟨x3,x4⟩,us⟩] }=fd at FT RF RM
  clear hfd
  go_wp2_with fail
  refine (FT.out _ (Below.refl _ _)).mono ?_
  rintro e wf ⟨rfl,hbf⟩
  have HMF:=Lib.hid (HMP.out.below hbf)
  have HKF:=Lib.hid (HKP.out.trans (Kp.of_below (X:=fun _=>False) hbf) (fun _ _ h=>h.elim))
  clear hbf cb4 fb4 zb4
  cases fd with
  | true =>
   have R:=Lib.hid (RF.out rfl)
   go_wp2
   refine bodyPost_ret (v:=.tuple #[.int .i64 at0,.int .i64 y0]) (by simp [results,Tryz.results68,go_sem]) rfl ?_
   refine ⟨by rw [R.out,← hy0.out],HKF.out,fun _=>?_⟩
   rw [EP.out]
   exact ⟨_,_,_,_,_,HMF.out⟩
  | false =>
   have R:=Lib.hid (RM.out rfl)
   go_wp2
   refine bodyPost_ret (v:=.tuple #[.int .i64 1,.int .i64 5]) (by simp [results,Tryz.results68,go_sem]) rfl ?_
   exact ⟨by rw [R.out],HKF.out,fun h=>by rw [R.out] at h;cases h⟩
 ·have dy:(y0 == 0)=false:=by simp [hy]
  have R:=Lib.hid ((congrArg resL E.out).trans (resL_bad hy))
  have hyn:=Lib.hid hy
  clear hy
  go_wp2
  refine bodyPost_ret (v:=.tuple #[.int .i64 at0,.int .i64 y0]) (by simp [results,Tryz.results68,go_sem]) rfl ?_
  exact ⟨by rw [R.out],HKP.out,fun h=>by rw [R.out] at h;exact absurd h hyn.out⟩
end
section
open Go.RowKit Go.Shelf

set_option maxRecDepth 100000 in
set_option maxHeartbeats 4000000 in
theorem maker_line_grow (s:ByteArray) (C b:Nat) (v0 v1 v2 v3:Value) (p:Pd) (zs:List (Qd × Value)) (w:World) (hM:MkP C b w v0 v1 v2 v3 p zs) (hg:Gl w) (hs:s.size≤1000000) (hok:OkP p) (hf:fitsD p=true) (x:Tok) (r:List Tok) (ti:Int) (ht:tokens (bl s)=(x :: r,ti,0)) (t1:¬ (x.tx=wAlways∨x.tx=wCan)) (t3:x.tx=wGrow) :
  Calls Tryz.prog 68 #[.pointer (some ⟨b,0,none⟩),.string s] w fun e w'=>LineP C b w (lineP p s) e w':=by
 have HG:=Lib.hid hg
 obtain ⟨a0,c0,rfl⟩:=own_form hM.r0
 obtain ⟨a1,c1,rfl⟩:=own_form hM.r1
 obtain ⟨a2,c2,rfl⟩:=own_form hM.r2
 obtain ⟨a3,c3,rfl⟩:=own_form hM.r3
 have HM:=Lib.hid hM
 obtain ⟨n0,n1,n2,n3⟩:=fits_few hf
 have HZL:=Lib.hid (show zs.length=p.q.length by rw [← hM.z,List.length_map])
 have HF:=Lib.hid hf
 have TK:=Lib.hid (scan_Tokens_any s w hg (by omega))
 have E:=Lib.hid (show lineP p s=lineT p s (tokens (bl s)) from rfl)
 generalize lineP p s=res at E ⊢
 clear hg hf hM
 have hto:=tokens_ok (bl s)
 rw [ht] at E TK hto
 clear ht
 dsimp only at hto
 go_enter Tryz.func68,Tryz.ntmps68
 go_wp2_with fail
 refine TK.out.mono ?_
 rintro e w1 ⟨va,rfl,hown1,hb1⟩
 dsimp only at hown1
 obtain ⟨sa,sc,rfl⟩:=own_form hown1
 have HS1:=Lib.hid (Sl.of_own hown1)
 have HB1:=Lib.hid hb1
 clear hown1 hb1 TK
 have dl:((((r.length:Int)+1) == 0))=false:=by rw [beq_eq_false_iff_ne];omega
 obtain ⟨tb,off,cap,he1,hc1,hm1,hb1,hx1⟩:=HS1.out.pos (by simp)
 simp only [Value.slice.injEq] at he1
 obtain ⟨rfl,_,rfl⟩:=he1
 obtain ⟨p0,p1,p2⟩:=tk_head hx1
 have TX:=Lib.hid (show (⟨x.text.toArray⟩:ByteArray)=x.tx from rfl)
 rw [TX.out] at p1
 clear hx1 TX
 have e1:(x.tx.toList == [97,108,119,97,121,115])=false:=tx_ne (fun h=>t1 (.inl h))
 have e2:(x.tx.toList == [99,97,110])=false:=tx_ne (fun h=>t1 (.inr h))
 have e3:(x.tx.toList == [103,114,111,119])=true:=tx_eq t3
 have A1:=Lib.hid t1
 have A3:=Lib.hid t3
 clear t1 t3
 go_wp2_with fail
 obtain ⟨WB,hWB⟩:∃ W,W=w1.alloc (.cells #[.string emp,.string emp] 78):=⟨_,rfl⟩
 have hbB:Below w1.heap.size w1 WB:=by rw [hWB];exact (Below.refl _ _).alloc (Nat.le_refl _) _
 have HBQ:=Lib.hid (show Blk WB w1.heap.size #[.string emp,.string emp] by rw [hWB];exact Blk.new w1 _ _)
 have HSZ:=Lib.hid (show WB.heap.size=w1.heap.size+1 by rw [hWB];simp)
 have HBB:=Lib.hid (HB1.out.trans (hbB.mono HB1.out.size))
 have hgq0:w.heap.size≤w1.heap.size:=HB1.out.size
 have hGB:=Lib.hid (HG.out.below HBB.out)
 have E:=Lib.hid (E.out.trans (lineT_grow (p:=p) (s:=s) (r:=r) (i:=ti) A1.out A3.out))
 have QP:=Lib.hid (policy_bound s (.slice (some ⟨tb,off,none⟩) (r.length+1) sc) (x :: r) WB (by omega) hGB.out (HS1.out.below hbB))
 have HOK:=Lib.hid (fun (h:(boundT (x :: r) (endOf s)).2.2=0)=>show OkP { p with g:=insAllR [] (p.g++[(boundT (x :: r) (endOf s)).1]) } from ⟨hok.l,fun y hy=>((insAll_memR _ _ _).1 hy).elim (fun h'=>absurd h' (by simp)) (fun h'=>(List.mem_append.1 h').elim (hok.g y) (fun h'=>by rw [List.mem_singleton.1 h'];exact bound_role hto h)),hok.h,hok.q⟩)
 generalize boundT (x :: r) (endOf s)=pq at E QP HOK
 obtain ⟨⟨x1,x2⟩,at0,y0⟩:=pq
 dsimp only at E QP HOK
 rw [← hWB]
 clear hWB hbB hGB
 refine QP.out.mono ?_
 rintro e w2 ⟨rfl,hb2⟩
 dsimp only
 have HB2:=Lib.hid (HBB.out.trans (hb2.mono HBB.out.size))
 have HBQ2:=Lib.hid (HBQ.out.below hb2)
 clear hb2 QP HBQ HBB
 obtain ⟨cq,fq,zq⟩:=HBQ2.out
 go_wp2_with fail
 clear cq fq zq
 have HBQ3:=Lib.hid (show Blk ((w2.setCell ⟨w1.heap.size,0,none⟩ (.string x1)).setCell ⟨w1.heap.size,1,none⟩ (.string x2)) w1.heap.size #[.string x1,.string x2] from ((HBQ2.out.put (o:=0) (v:=.string x1) (by simp)).put (o:=1) (v:=.string x2) (by simp)).congr rfl)
 have HB3:=Lib.hid ((HB2.out.setCell (p:=⟨w1.heap.size,0,none⟩) hgq0 (.string x1)).setCell (p:=⟨w1.heap.size,1,none⟩) hgq0 (.string x2))
 obtain ⟨W3,hW3⟩:∃ V,V=((w2.setCell ⟨w1.heap.size,0,none⟩ (.string x1)).setCell ⟨w1.heap.size,1,none⟩ (.string x2)):=⟨_,rfl⟩
 rw [← hW3] at HBQ3 HB3 ⊢
 clear hW3 HB2 HBQ2
 have HM3:=Lib.hid (HM.out.below HB3.out)
 have hCs:C≤w.heap.size:=HM.out.hC
 refine wp_region_last (S:=fun W=>(∀ o,W.cell? ⟨b,o,none⟩=(#[.slice a0 p.l.length c0,.slice a1 p.g.length c1,.slice a2 p.h.length c2,.slice a3 zs.length c3]:Array Value)[o]?)∧(∀ o,W.cell? ⟨w1.heap.size,o,none⟩=(#[.string x1,.string x2]:Array Value)[o]?)) 13 (by kernel_rfl) ⟨(HM3.out.blk.below (below_drew (Below.refl _ _))).1,(HBQ3.out.below (below_drew (Below.refl _ _))).1⟩ (fun hHeld=>?_)
 have hd:=below_drew (Below.refl W3.heap.size W3)
 have HM3:=Lib.hid (HM3.out.below hd)
 have HB3:=Lib.hid (HB3.out.trans (hd.mono HB3.out.size))
 have HBQ3:=Lib.hid (HBQ3.out.below hd)

 obtain ⟨W4,hW4⟩:∃ V,V=W3.drew:=⟨_,rfl⟩
 rw [← hW4] at HM3 HB3 HBQ3 hHeld ⊢
 clear hd hW4
 (refine lyes 0 ?_);(refine lyes 1 ?_);(refine lyes 2 ?_);(refine lyes 3 ?_);(refine lyes 4 ?_);(refine lyes 5 ?_);(refine lyes 6 ?_);(try simp only [Act.put,List.setIfInBounds_toArray,List.set])
 (refine last_call 7 rfl (by kernel_rfl) (fun K hK=>?_);go_simp)
 obtain ⟨W5,hW5⟩:∃ V,V=W4.alloc (.cells #[.string x1,.string x2] 78):=⟨_,rfl⟩
 obtain ⟨bn,hbn⟩:∃ b,b=W4.heap.size:=⟨_,rfl⟩
 rw [← hW5,← hbn]
 have hbq:Below W4.heap.size W4 W5:=by rw [hW5];exact (Below.refl _ _).alloc (Nat.le_refl _) _
 have HN1:=Lib.hid (show Sl W5 2 (.slice (some ⟨bn,0,none⟩) 1 1) 1 (Rl.cells ⟨x1,x2⟩) by rw [hW5];exact Sl.new W4 (Rl.cells ⟨x1,x2⟩) 78 2 1 bn hbn rfl (by simp [maxLen]))
 have HM5:=Lib.hid (HM3.out.below hbq)
 have HB5:=Lib.hid (HB3.out.trans (hbq.mono HB3.out.size))
 have HBQ5:=Lib.hid (HBQ3.out.below hbq)

 clear hbq hW5 hbn HM3 HB3 HBQ3
 (refine hK.out _ _ ⟨HM5.out.blk.1,HBQ5.out.1⟩ (fun hHeld=>?_);clear hK K;(try simp only [Act.put,List.setIfInBounds_toArray,List.set]))
 obtain ⟨inf,hin,hs0,hs1,hs2⟩:=info_parts rl_info'
 have HIN:=Lib.hid hin
 clear hin

 refine last_call 8 rfl (by kernel_rfl) (fun K hK=>?_)
 refine step_row rfl _ _ 23 rfl C 78 inf _ 2 32 Tryz.underlying23 HIN.out hs0 hs1 hs2 (by decide) rfl (by decide) _ p.g.length _ rfl HM5.out.r1 _ 1 _ rfl HN1.out.a (rlc_one _) (by have:=HZL.out;omega) HM5.out.hC ?_
 intro a5 c5 wc hown5 hg5
 have hneb:some b≠(Value.slice a1 p.g.length c1).ownBlock:=fun e=>by have:=(own_type HM5.out.r1 e.symm).1;have:=HM5.out.hb;omega
 have hneq:some w1.heap.size≠(Value.slice a1 p.g.length c1).ownBlock:=fun e=>by
  have h1:=own_type HM.out.r1 e.symm
  obtain ⟨_,cs,h2⟩:=h1
  have:=(Array.getElem?_eq_some_iff.1 h2).1
  omega
 have HKG:=Lib.hid (Kp.of_grown (X:=fun k=>some k=(Value.slice a1 p.g.length c1).ownBlock) hg5 (fun _ h=>h))
 have HBG:=Lib.hid (HKG.out.blk HM5.out.blk hneb)
 have HQG:=Lib.hid (HKG.out.blk HBQ5.out hneq)
 have HO5:=Lib.hid hown5
 clear hg5 hown5 HN1 HIN hs0 hs1 hs2 hneb hneq
 (refine hK.out _ _ ⟨HBG.out.1,HQG.out.1⟩ (fun hHeld=>?_);clear hK K;(try simp only [Act.put,List.setIfInBounds_toArray,List.set]))
 (refine last_call 9 rfl (by kernel_rfl) (fun K hK=>?_);go_simp)
 go_at_call 127;refine (pol_SortRolesO _ (p.g++[⟨x1,x2⟩]) _ (by rw [List.length_append,List.flatMap_append];simpa using (Sl.of_own HO5.out).a) (by simp;omega)).mono ?_;rintro e wd ⟨vd,rfl,hod,hbd⟩
 obtain ⟨ad,cd,rfl⟩:=own_form hod
 have HOD:=Lib.hid hod
 have HBD:=Lib.hid hbd
 have HBG:=Lib.hid (HBG.out.below hbd)
 have HQG:=Lib.hid (HQG.out.below hbd)
 clear hod hbd
 (refine hK.out _ _ ⟨HBG.out.1,HQG.out.1⟩ (fun hHeld=>?_);clear hK K;(try simp only [Act.put,List.setIfInBounds_toArray,List.set]))
 (refine lyes 10 ?_);(refine lyes 11 ?_);(refine lyes 12 ?_);(try simp only [Act.put,List.setIfInBounds_toArray,List.set])
 obtain ⟨cg,fg,zg⟩:=HBG.out
 (refine last_end 13 rfl (by kernel_rfl) (by kernel_rfl) (fun K hK=>?_);go_simp)
 clear cg fg zg
 have HKD:=Lib.hid (HKG.out.trans (Kp.of_below (X:=fun _=>False) HBD.out) (fun _ _ h=>h.elim))
 have HMP:=Lib.hid (HM5.out.put1 HKD.out (own_mono HOD.out (Nat.le_trans HM5.out.hC HKG.out.size)) (fun k h1 h2=>by have h3:=(own_type HOD.out h1.symm).1;have h4:=own_type HM5.out.r2 h2.symm;obtain ⟨_,cs,h5⟩:=h4;have:=(Array.getElem?_eq_some_iff.1 h5).1;have:=HKG.out.size;omega))
 have HKP:=Lib.hid (((Kp.of_below (X:=mkrX C b w) HB5.out).trans HKD.out (fun g hg e=>.inr (by
  obtain ⟨h1,cs,h2⟩:=own_type HM.out.r1 e.symm
  exact ⟨h1,cs,_,h2,.inr (.inl rfl)⟩))).trans (Kp.set (X:=fun k=>k=b) (o:=1) (v:=.slice ad (insAllR [] (p.g++[⟨x1,x2⟩])).length cd) rfl) (fun g _ e=>.inl e))
 obtain ⟨we,hwe⟩:∃ V,V=wd.setCell ⟨b,1,none⟩ (.slice ad (insAllR [] (p.g++[⟨x1,x2⟩])).length cd):=⟨_,rfl⟩
 rw [← hwe] at HMP HKP ⊢
 clear hwe HBG HQG HKG HO5 HM5 HB5 HBQ5 HKD HBD
 refine hK.out _ _ ?_
 clear hK K HOD
 have hil:(insAllR [] (p.g++[⟨x1,x2⟩])).length≤p.g.length+1:=by have:=insAll_lenR (p.g++[⟨x1,x2⟩]) [];simpa using this
 by_cases hy:y0=0
 ·have FT:=Lib.hid (fun W (hb:Below we.heap.size we W)=>policy_FitsD (.slice a0 p.l.length c0) (.slice ad (insAllR [] (p.g++[⟨x1,x2⟩])).length cd) (.slice a2 p.h.length c2) (.slice a3 zs.length c3) { p with g:=insAllR [] (p.g++[⟨x1,x2⟩]) } zs W (HMP.out.pol.below hb) ((okP_le (HOK.out hy)).mono (by decide) (by decide)) (by simp;omega))
  have dy:(y0 == 0)=true:=by simp [hy]
  obtain ⟨cb4,fb4,zb4⟩:=HMP.out.blk
  have RF:=Lib.hid (fun (h:fitsD { p with g:=insAllR [] (p.g++[⟨x1,x2⟩]) }=true)=>(congrArg resL E.out).trans (resL_fits hy h))
  have RM:=Lib.hid (fun (h:fitsD { p with g:=insAllR [] (p.g++[⟨x1,x2⟩]) }=false)=>(congrArg resL E.out).trans (resL_many hy h))
  have EP:=Lib.hid (congrArg Prod.fst E.out)
  have hy0:=Lib.hid hy
  clear E hy
  generalize hfd:fitsD { p with g:=insAllR [] (p.g++[⟨x1,x2⟩]) }=fd at FT RF RM
  clear hfd
  go_wp2_with fail
  refine (FT.out _ (Below.refl _ _)).mono ?_
  rintro e wf ⟨rfl,hbf⟩
  have HMF:=Lib.hid (HMP.out.below hbf)
  have HKF:=Lib.hid (HKP.out.trans (Kp.of_below (X:=fun _=>False) hbf) (fun _ _ h=>h.elim))
  clear hbf cb4 fb4 zb4
  cases fd with
  | true =>
   have R:=Lib.hid (RF.out rfl)
   go_wp2
   refine bodyPost_ret (v:=.tuple #[.int .i64 at0,.int .i64 y0]) (by simp [results,Tryz.results68,go_sem]) rfl ?_
   refine ⟨by rw [R.out,← hy0.out],HKF.out,fun _=>?_⟩
   rw [EP.out]
   exact ⟨_,_,_,_,_,HMF.out⟩
  | false =>
   have R:=Lib.hid (RM.out rfl)
   go_wp2
   refine bodyPost_ret (v:=.tuple #[.int .i64 1,.int .i64 5]) (by simp [results,Tryz.results68,go_sem]) rfl ?_
   exact ⟨by rw [R.out],HKF.out,fun h=>by rw [R.out] at h;cases h⟩
 ·have dy:(y0 == 0)=false:=by simp [hy]
  have R:=Lib.hid ((congrArg resL E.out).trans (resL_bad hy))
  have hyn:=Lib.hid hy
  clear hy
  go_wp2
  refine bodyPost_ret (v:=.tuple #[.int .i64 at0,.int .i64 y0]) (by simp [results,Tryz.results68,go_sem]) rfl ?_
  exact ⟨by rw [R.out],HKP.out,fun h=>by rw [R.out] at h;exact absurd h hyn.out⟩
end
section
open Go.RowKit Go.Shelf

set_option maxRecDepth 100000 in
set_option maxHeartbeats 4000000 in
theorem maker_line_shrink (s:ByteArray) (C b:Nat) (v0 v1 v2 v3:Value) (p:Pd) (zs:List (Qd × Value)) (w:World) (hM:MkP C b w v0 v1 v2 v3 p zs) (hg:Gl w) (hs:s.size≤1000000) (hok:OkP p) (hf:fitsD p=true) (x:Tok) (r:List Tok) (ti:Int) (ht:tokens (bl s)=(x :: r,ti,0)) (t1:¬ (x.tx=wAlways∨x.tx=wCan)) (t3:¬ x.tx=wGrow) (t4:x.tx=wShrink) :
  Calls Tryz.prog 68 #[.pointer (some ⟨b,0,none⟩),.string s] w fun e w'=>LineP C b w (lineP p s) e w':=by
 have HG:=Lib.hid hg
 obtain ⟨a0,c0,rfl⟩:=own_form hM.r0
 obtain ⟨a1,c1,rfl⟩:=own_form hM.r1
 obtain ⟨a2,c2,rfl⟩:=own_form hM.r2
 obtain ⟨a3,c3,rfl⟩:=own_form hM.r3
 have HM:=Lib.hid hM
 obtain ⟨n0,n1,n2,n3⟩:=fits_few hf
 have HZL:=Lib.hid (show zs.length=p.q.length by rw [← hM.z,List.length_map])
 have HF:=Lib.hid hf
 have TK:=Lib.hid (scan_Tokens_any s w hg (by omega))
 have E:=Lib.hid (show lineP p s=lineT p s (tokens (bl s)) from rfl)
 generalize lineP p s=res at E ⊢
 clear hg hf hM
 have hto:=tokens_ok (bl s)
 rw [ht] at E TK hto
 clear ht
 dsimp only at hto
 go_enter Tryz.func68,Tryz.ntmps68
 go_wp2_with fail
 refine TK.out.mono ?_
 rintro e w1 ⟨va,rfl,hown1,hb1⟩
 dsimp only at hown1
 obtain ⟨sa,sc,rfl⟩:=own_form hown1
 have HS1:=Lib.hid (Sl.of_own hown1)
 have HB1:=Lib.hid hb1
 clear hown1 hb1 TK
 have dl:((((r.length:Int)+1) == 0))=false:=by rw [beq_eq_false_iff_ne];omega
 obtain ⟨tb,off,cap,he1,hc1,hm1,hb1,hx1⟩:=HS1.out.pos (by simp)
 simp only [Value.slice.injEq] at he1
 obtain ⟨rfl,_,rfl⟩:=he1
 obtain ⟨p0,p1,p2⟩:=tk_head hx1
 have TX:=Lib.hid (show (⟨x.text.toArray⟩:ByteArray)=x.tx from rfl)
 rw [TX.out] at p1
 clear hx1 TX
 have e1:(x.tx.toList == [97,108,119,97,121,115])=false:=tx_ne (fun h=>t1 (.inl h))
 have e2:(x.tx.toList == [99,97,110])=false:=tx_ne (fun h=>t1 (.inr h))
 have e3:(x.tx.toList == [103,114,111,119])=false:=tx_ne t3
 have e4:(x.tx.toList == [115,104,114,105,110,107])=true:=tx_eq t4
 have A1:=Lib.hid t1
 have A3:=Lib.hid t3
 have A4:=Lib.hid t4
 clear t1 t3 t4
 go_wp2_with fail
 obtain ⟨WB,hWB⟩:∃ W,W=w1.alloc (.cells #[.string emp,.string emp] 78):=⟨_,rfl⟩
 have hbB:Below w1.heap.size w1 WB:=by rw [hWB];exact (Below.refl _ _).alloc (Nat.le_refl _) _
 have HBQ:=Lib.hid (show Blk WB w1.heap.size #[.string emp,.string emp] by rw [hWB];exact Blk.new w1 _ _)
 have HSZ:=Lib.hid (show WB.heap.size=w1.heap.size+1 by rw [hWB];simp)
 have HBB:=Lib.hid (HB1.out.trans (hbB.mono HB1.out.size))
 have hgq0:w.heap.size≤w1.heap.size:=HB1.out.size
 have hGB:=Lib.hid (HG.out.below HBB.out)
 have E:=Lib.hid (E.out.trans (lineT_shrink (p:=p) (s:=s) (r:=r) (i:=ti) A1.out A3.out A4.out))
 have QP:=Lib.hid (policy_bound s (.slice (some ⟨tb,off,none⟩) (r.length+1) sc) (x :: r) WB (by omega) hGB.out (HS1.out.below hbB))
 have HOK:=Lib.hid (fun (h:(boundT (x :: r) (endOf s)).2.2=0)=>show OkP { p with h:=insAllR [] (p.h++[(boundT (x :: r) (endOf s)).1]) } from ⟨hok.l,hok.g,fun y hy=>((insAll_memR _ _ _).1 hy).elim (fun h'=>absurd h' (by simp)) (fun h'=>(List.mem_append.1 h').elim (hok.h y) (fun h'=>by rw [List.mem_singleton.1 h'];exact bound_role hto h)),hok.q⟩)
 generalize boundT (x :: r) (endOf s)=pq at E QP HOK
 obtain ⟨⟨x1,x2⟩,at0,y0⟩:=pq
 dsimp only at E QP HOK
 rw [← hWB]
 clear hWB hbB hGB
 refine QP.out.mono ?_
 rintro e w2 ⟨rfl,hb2⟩
 dsimp only
 have HB2:=Lib.hid (HBB.out.trans (hb2.mono HBB.out.size))
 have HBQ2:=Lib.hid (HBQ.out.below hb2)
 clear hb2 QP HBQ HBB
 obtain ⟨cq,fq,zq⟩:=HBQ2.out
 go_wp2_with fail
 clear cq fq zq
 have HBQ3:=Lib.hid (show Blk ((w2.setCell ⟨w1.heap.size,0,none⟩ (.string x1)).setCell ⟨w1.heap.size,1,none⟩ (.string x2)) w1.heap.size #[.string x1,.string x2] from ((HBQ2.out.put (o:=0) (v:=.string x1) (by simp)).put (o:=1) (v:=.string x2) (by simp)).congr rfl)
 have HB3:=Lib.hid ((HB2.out.setCell (p:=⟨w1.heap.size,0,none⟩) hgq0 (.string x1)).setCell (p:=⟨w1.heap.size,1,none⟩) hgq0 (.string x2))
 obtain ⟨W3,hW3⟩:∃ V,V=((w2.setCell ⟨w1.heap.size,0,none⟩ (.string x1)).setCell ⟨w1.heap.size,1,none⟩ (.string x2)):=⟨_,rfl⟩
 rw [← hW3] at HBQ3 HB3 ⊢
 clear hW3 HB2 HBQ2
 have HM3:=Lib.hid (HM.out.below HB3.out)
 have hCs:C≤w.heap.size:=HM.out.hC
 refine wp_region_last (S:=fun W=>(∀ o,W.cell? ⟨b,o,none⟩=(#[.slice a0 p.l.length c0,.slice a1 p.g.length c1,.slice a2 p.h.length c2,.slice a3 zs.length c3]:Array Value)[o]?)∧(∀ o,W.cell? ⟨w1.heap.size,o,none⟩=(#[.string x1,.string x2]:Array Value)[o]?)) 13 (by kernel_rfl) ⟨(HM3.out.blk.below (below_drew (Below.refl _ _))).1,(HBQ3.out.below (below_drew (Below.refl _ _))).1⟩ (fun hHeld=>?_)
 have hd:=below_drew (Below.refl W3.heap.size W3)
 have HM3:=Lib.hid (HM3.out.below hd)
 have HB3:=Lib.hid (HB3.out.trans (hd.mono HB3.out.size))
 have HBQ3:=Lib.hid (HBQ3.out.below hd)

 obtain ⟨W4,hW4⟩:∃ V,V=W3.drew:=⟨_,rfl⟩
 rw [← hW4] at HM3 HB3 HBQ3 hHeld ⊢
 clear hd hW4
 (refine lyes 0 ?_);(refine lyes 1 ?_);(refine lyes 2 ?_);(refine lyes 3 ?_);(refine lyes 4 ?_);(refine lyes 5 ?_);(refine lyes 6 ?_);(try simp only [Act.put,List.setIfInBounds_toArray,List.set])
 (refine last_call 7 rfl (by kernel_rfl) (fun K hK=>?_);go_simp)
 obtain ⟨W5,hW5⟩:∃ V,V=W4.alloc (.cells #[.string x1,.string x2] 78):=⟨_,rfl⟩
 obtain ⟨bn,hbn⟩:∃ b,b=W4.heap.size:=⟨_,rfl⟩
 rw [← hW5,← hbn]
 have hbq:Below W4.heap.size W4 W5:=by rw [hW5];exact (Below.refl _ _).alloc (Nat.le_refl _) _
 have HN1:=Lib.hid (show Sl W5 2 (.slice (some ⟨bn,0,none⟩) 1 1) 1 (Rl.cells ⟨x1,x2⟩) by rw [hW5];exact Sl.new W4 (Rl.cells ⟨x1,x2⟩) 78 2 1 bn hbn rfl (by simp [maxLen]))
 have HM5:=Lib.hid (HM3.out.below hbq)
 have HB5:=Lib.hid (HB3.out.trans (hbq.mono HB3.out.size))
 have HBQ5:=Lib.hid (HBQ3.out.below hbq)

 clear hbq hW5 hbn HM3 HB3 HBQ3
 (refine hK.out _ _ ⟨HM5.out.blk.1,HBQ5.out.1⟩ (fun hHeld=>?_);clear hK K;(try simp only [Act.put,List.setIfInBounds_toArray,List.set]))
 obtain ⟨inf,hin,hs0,hs1,hs2⟩:=info_parts rl_info'
 have HIN:=Lib.hid hin
 clear hin

 refine last_call 8 rfl (by kernel_rfl) (fun K hK=>?_)
 refine step_row rfl _ _ 23 rfl C 78 inf _ 2 32 Tryz.underlying23 HIN.out hs0 hs1 hs2 (by decide) rfl (by decide) _ p.h.length _ rfl HM5.out.r2 _ 1 _ rfl HN1.out.a (rlc_one _) (by have:=HZL.out;omega) HM5.out.hC ?_
 intro a5 c5 wc hown5 hg5
 have hneb:some b≠(Value.slice a2 p.h.length c2).ownBlock:=fun e=>by have:=(own_type HM5.out.r2 e.symm).1;have:=HM5.out.hb;omega
 have hneq:some w1.heap.size≠(Value.slice a2 p.h.length c2).ownBlock:=fun e=>by
  have h1:=own_type HM.out.r2 e.symm
  obtain ⟨_,cs,h2⟩:=h1
  have:=(Array.getElem?_eq_some_iff.1 h2).1
  omega
 have HKG:=Lib.hid (Kp.of_grown (X:=fun k=>some k=(Value.slice a2 p.h.length c2).ownBlock) hg5 (fun _ h=>h))
 have HBG:=Lib.hid (HKG.out.blk HM5.out.blk hneb)
 have HQG:=Lib.hid (HKG.out.blk HBQ5.out hneq)
 have HO5:=Lib.hid hown5
 clear hg5 hown5 HN1 HIN hs0 hs1 hs2 hneb hneq
 (refine hK.out _ _ ⟨HBG.out.1,HQG.out.1⟩ (fun hHeld=>?_);clear hK K;(try simp only [Act.put,List.setIfInBounds_toArray,List.set]))
 (refine last_call 9 rfl (by kernel_rfl) (fun K hK=>?_);go_simp)
 go_at_call 127;refine (pol_SortRolesO _ (p.h++[⟨x1,x2⟩]) _ (by rw [List.length_append,List.flatMap_append];simpa using (Sl.of_own HO5.out).a) (by simp;omega)).mono ?_;rintro e wd ⟨vd,rfl,hod,hbd⟩
 obtain ⟨ad,cd,rfl⟩:=own_form hod
 have HOD:=Lib.hid hod
 have HBD:=Lib.hid hbd
 have HBG:=Lib.hid (HBG.out.below hbd)
 have HQG:=Lib.hid (HQG.out.below hbd)
 clear hod hbd
 (refine hK.out _ _ ⟨HBG.out.1,HQG.out.1⟩ (fun hHeld=>?_);clear hK K;(try simp only [Act.put,List.setIfInBounds_toArray,List.set]))
 (refine lyes 10 ?_);(refine lyes 11 ?_);(refine lyes 12 ?_);(try simp only [Act.put,List.setIfInBounds_toArray,List.set])
 obtain ⟨cg,fg,zg⟩:=HBG.out
 (refine last_end 13 rfl (by kernel_rfl) (by kernel_rfl) (fun K hK=>?_);go_simp)
 clear cg fg zg
 have HKD:=Lib.hid (HKG.out.trans (Kp.of_below (X:=fun _=>False) HBD.out) (fun _ _ h=>h.elim))
 have HMP:=Lib.hid (HM5.out.put2 HKD.out (own_mono HOD.out (Nat.le_trans HM5.out.hC HKG.out.size)) (fun k h1 h2=>by have h3:=(own_type HOD.out h2.symm).1;have h4:=own_type HM5.out.r1 h1.symm;obtain ⟨_,cs,h5⟩:=h4;have:=(Array.getElem?_eq_some_iff.1 h5).1;have:=HKG.out.size;omega))
 have HKP:=Lib.hid (((Kp.of_below (X:=mkrX C b w) HB5.out).trans HKD.out (fun g hg e=>.inr (by
  obtain ⟨h1,cs,h2⟩:=own_type HM.out.r2 e.symm
  exact ⟨h1,cs,_,h2,.inr (.inl rfl)⟩))).trans (Kp.set (X:=fun k=>k=b) (o:=2) (v:=.slice ad (insAllR [] (p.h++[⟨x1,x2⟩])).length cd) rfl) (fun g _ e=>.inl e))
 obtain ⟨we,hwe⟩:∃ V,V=wd.setCell ⟨b,2,none⟩ (.slice ad (insAllR [] (p.h++[⟨x1,x2⟩])).length cd):=⟨_,rfl⟩
 rw [← hwe] at HMP HKP ⊢
 clear hwe HBG HQG HKG HO5 HM5 HB5 HBQ5 HKD HBD
 refine hK.out _ _ ?_
 clear hK K HOD
 have hil:(insAllR [] (p.h++[⟨x1,x2⟩])).length≤p.h.length+1:=by have:=insAll_lenR (p.h++[⟨x1,x2⟩]) [];simpa using this
 by_cases hy:y0=0
 ·have FT:=Lib.hid (fun W (hb:Below we.heap.size we W)=>policy_FitsD (.slice a0 p.l.length c0) (.slice a1 p.g.length c1) (.slice ad (insAllR [] (p.h++[⟨x1,x2⟩])).length cd) (.slice a3 zs.length c3) { p with h:=insAllR [] (p.h++[⟨x1,x2⟩]) } zs W (HMP.out.pol.below hb) ((okP_le (HOK.out hy)).mono (by decide) (by decide)) (by simp;omega))
  have dy:(y0 == 0)=true:=by simp [hy]
  obtain ⟨cb4,fb4,zb4⟩:=HMP.out.blk
  have RF:=Lib.hid (fun (h:fitsD { p with h:=insAllR [] (p.h++[⟨x1,x2⟩]) }=true)=>(congrArg resL E.out).trans (resL_fits hy h))
  have RM:=Lib.hid (fun (h:fitsD { p with h:=insAllR [] (p.h++[⟨x1,x2⟩]) }=false)=>(congrArg resL E.out).trans (resL_many hy h))
  have EP:=Lib.hid (congrArg Prod.fst E.out)
  have hy0:=Lib.hid hy
  clear E hy
  generalize hfd:fitsD { p with h:=insAllR [] (p.h++[⟨x1,x2⟩]) }=fd at FT RF RM
  clear hfd
  go_wp2_with fail
  refine (FT.out _ (Below.refl _ _)).mono ?_
  rintro e wf ⟨rfl,hbf⟩
  have HMF:=Lib.hid (HMP.out.below hbf)
  have HKF:=Lib.hid (HKP.out.trans (Kp.of_below (X:=fun _=>False) hbf) (fun _ _ h=>h.elim))
  clear hbf cb4 fb4 zb4
  cases fd with
  | true =>
   have R:=Lib.hid (RF.out rfl)
   go_wp2
   refine bodyPost_ret (v:=.tuple #[.int .i64 at0,.int .i64 y0]) (by simp [results,Tryz.results68,go_sem]) rfl ?_
   refine ⟨by rw [R.out,← hy0.out],HKF.out,fun _=>?_⟩
   rw [EP.out]
   exact ⟨_,_,_,_,_,HMF.out⟩
  | false =>
   have R:=Lib.hid (RM.out rfl)
   go_wp2
   refine bodyPost_ret (v:=.tuple #[.int .i64 1,.int .i64 5]) (by simp [results,Tryz.results68,go_sem]) rfl ?_
   exact ⟨by rw [R.out],HKF.out,fun h=>by rw [R.out] at h;cases h⟩
 ·have dy:(y0 == 0)=false:=by simp [hy]
  have R:=Lib.hid ((congrArg resL E.out).trans (resL_bad hy))
  have hyn:=Lib.hid hy
  clear hy
  go_wp2
  refine bodyPost_ret (v:=.tuple #[.int .i64 at0,.int .i64 y0]) (by simp [results,Tryz.results68,go_sem]) rfl ?_
  exact ⟨by rw [R.out],HKP.out,fun h=>by rw [R.out] at h;exact absurd h hyn.out⟩
end
end Go.Proofs.YtomhekohcadijaaGreatDoor
