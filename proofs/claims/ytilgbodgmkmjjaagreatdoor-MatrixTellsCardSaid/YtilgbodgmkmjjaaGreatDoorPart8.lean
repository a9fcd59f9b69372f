/- Parts: RefRoles RefPrinsL Ref11 SimSat RefPrins RefFits RefQuery RlSort -/
import Derived.Test.YtilgbodgmkmjjaaGreatDoorPart6
import Derived.Test.YtilgbodgmkmjjaaGreatDoorPart7
import Derived.Test.YtilgbodgmkmjjaaGreatDoorPart5
import Derived.Deep.RegionLawGrows
namespace Go.Proofs.YtilgbodgmkmjjaaGreatDoor
section
open Go.RowKit Go.Shelf

theorem rl1 (x y:ByteArray):∀ u∈[Value.string x,Value.string y],u.oneCell'=true:=by
 intro u hu;simp at hu;rcases hu with rfl | rfl <;> rfl
theorem heap_old {w:World} {g:Nat} {o:Obj} (o':Obj) (h:w.heap[g]? = some o):(w.alloc o').heap[g]? = some o :=
 (Below.heap_alloc _ _ _ (Array.getElem?_eq_some_iff.1 h).1).trans h
theorem own_tag {w:World} {base size n g:Nat} {e t:TypeId} {v:Value} {xs:List Value} {cs:Array Value} {fz:Nat × Nat} (h:w.ownsRow base e size v n xs) (hg:w.heap[g]? = some (.cells cs t fz)) (ht:t≠e):some g≠v.ownBlock:=by
 rcases h.2 with ⟨rfl,rfl⟩ | ⟨g',cap,cur,rfl,_,hg',_⟩
 ·simp [Value.ownBlock]
 ·simp only [Value.ownBlock]
  intro e'
  cases e'
  rw [hg] at hg'
  simp only [Option.some.injEq,Obj.cells.injEq] at hg'
  exact ht hg'.2.1
theorem push_role {w wr w3:World} {A:Array Value} {vo:Value} {rs:List Rl} {x:Rl} {o:Obj} {a':Option Addr} {cap':Nat} (ht:OneAt w A wr) (hown:wr.ownsRow (w.heap.size+1) 28 2 vo rs.length (rs.flatMap Rl.cells))
  (h:w3.ownsRow (w.heap.size+1) 28 2 (.slice a' (rs.length+1) cap') (rs.length+1) (rs.flatMap Rl.cells++[.string x.o,.string x.n])) (hg:(wr.alloc o).grownBy w3 vo.ownBlock) :
  w3.ownsRow (w.heap.size+1) 28 2 (.slice a' (rs.length+1) cap') (rs++[x]).length ((rs++[x]).flatMap Rl.cells)∧OneAt w A w3:=by
 refine ⟨by rw [List.length_append,rl_flat];exact h,(ht.a.alloc o).grown hg (own_gt_ne hown (Nat.lt_succ_self _)),?_⟩
 exact below_own (ht.low.alloc ht.low.size o) (hown.alloc _) hg (by have:=ht.low.size;simp;omega) (Nat.le_succ _)
theorem le_snoc {rs:List Rl} {x:Rl} (h:∀ y∈rs,y.le 9223372036854775807) (hx:x.le 9223372036854775807):∀ y∈rs++[x],y.le 9223372036854775807:=by
 intro y hy
 rcases List.mem_append.1 hy with h' | h'
 ·exact h y h'
 ·rw [List.mem_singleton.1 h'];exact hx
theorem own_len {w:World} {base:Nat} {a:Option Addr} {n n' m cap:Nat} {xs:List Value} (h:w.ownsRow base 28 2 (.slice a n cap) m xs) (e:n=n'):w.ownsRow base 28 2 (.slice a n' cap) m xs:=by subst e;exact h

def rolesQ (q:Qv):List Rl:=if q.k=5∨q.k=6 then [q.a,q.b] else [q.a]
theorem flat_snocF {α β:Type} {l:List α} {k:Nat} (f:α→List β) (hk:k < l.length):(l.take (k+1)).flatMap f=(l.take k).flatMap f++f l[k]:=by
 rw [List.take_succ_eq_append_getElem hk,List.flatMap_append];simp
theorem take_snoc {α:Type} {l:List α} {k:Nat} (hk:k < l.length):l.take (k+1)=l.take k++[l[k]]:=List.take_succ_eq_append_getElem hk
def allRoles (l:List St) (g h:List Rl) (qs:List Qv):List Rl:=l.flatMap rolesS++g++h++qs.flatMap rolesQ
set_option maxRecDepth 100000 in
set_option maxHeartbeats 8000000 in
theorem ref5_RolesL (v0 v1 v2 v3:Value) (l:List St) (g h:List Rl) (qs:List Qv) (w:World) (hp:PolAt w v0 v1 v2 v3 l g h qs) (hl:l.length≤100) (hg:g.length≤100) (hh:h.length≤100) (hq:qs.length≤100) :
  Calls Tryz.prog 134 #[pv v0 v1 v2 v3] w fun e w' => ∃ v,e=.returned v∧SlA w' 2 v (allRoles l g h qs).length ((allRoles l g h qs).flatMap Rl.cells)∧(allRoles l g h qs).length≤1000∧(∀ x∈allRoles l g h qs,x.le 9223372036854775807)∧Below w.heap.size w w':=by
 have HP:=Lib.hid hp
 obtain ⟨a0,c0,rfl⟩:=hp.rs.form
 obtain ⟨a1,c1,rfl⟩:=hp.rg.form
 obtain ⟨a2,c2,rfl⟩:=hp.rh.form
 obtain ⟨a3,c3,rfl⟩:=hp.rq.form
 have HT:=Lib.hid (show OneAt w #[.slice a0 l.length c0,.slice a1 g.length c1,.slice a2 h.length c2,.slice a3 qs.length c3] (w.alloc (.cells #[.slice a0 l.length c0,.slice a1 g.length c1,.slice a2 h.length c2,.slice a3 qs.length c3] 26)) from ⟨Blk.new w _ _,(Below.refl _ _).alloc (Nat.le_refl _) _⟩)
 clear hp
 go_enter Tryz.func134,Tryz.ntmps134
 go_wp2_with fail
 go_loopw [3,15] (fun vo i wr => ∃ (k:Nat) (rs:List Rl),k≤l.length∧i=.int .i64 k∧Hid (rs.length≤3 * k)∧Hid (∀ x∈rs,x.le 9223372036854775807)∧Hid (OneAt w #[.slice a0 l.length c0,.slice a1 g.length c1,.slice a2 h.length c2,.slice a3 qs.length c3] wr)∧Hid (wr.ownsRow (w.heap.size+1) 28 2 vo rs.length (rs.flatMap Rl.cells))∧Hid (rs=(l.take k).flatMap rolesS)) (fun _ i _=>l.length - (intOf i).toNat)
 case atStart=>exact ⟨0,[],by omega,rfl,Lib.hid (by simp),Lib.hid (fun x hx=>by cases hx),HT,Lib.hid (World.ownsRow_nil _ _ _ _),Lib.hid (by simp)⟩
 case round =>
  clear HT
  obtain ⟨k,rs,hk,rfl,HC,HZ,HT,HO,HE⟩:=hrel
  obtain ⟨oo,oc,rfl⟩:=own_form HO.out
  have hrs:=HC.out
  by_cases hlt:k < l.length
  ·obtain ⟨b1,o1,e1,he1,hc1,hm1',hb1,hx1⟩:=HP.out.rs.pos (by omega)
   simp only [Value.slice.injEq,true_and] at he1
   obtain ⟨rfl,rfl⟩:=he1
   obtain ⟨p0,p1,p2,p3,p4,p5,p6,p7,p8⟩:=st_cell (w:=wr) (fun j u hu=>(HT.out.low.cell (p:=⟨b1,o1+j,none⟩) hb1).trans (hx1 j u hu)) k hlt
   have hbr:b1 < wr.heap.size:=Nat.lt_of_lt_of_le hb1 HT.out.low.size
   have hxl:=HP.out.ls _ (List.getElem_mem hlt)
   have HF:=Lib.hid (flat_snocF rolesS hlt)
   clear hx1
   generalize l[k]=x at *
   obtain ⟨xk,⟨x1,x2⟩,xw,⟨x3,x4⟩,⟨x5,x6⟩,xv⟩:=x
   have l1:(⟨x1,x2⟩:Rl).le 9223372036854775807:=hxl.1
   have l2:(⟨x3,x4⟩:Rl).le 9223372036854775807:=hxl.2.2.1
   have l3:(⟨x5,x6⟩:Rl).le 9223372036854775807:=hxl.2.2.2.1
   clear hxl
   have hown:=HO.out
   go_wp2_with (at_builtin;refine halt_ ?_)
   unfold Halt_
   refine app_own Tryz.underlying23 rl_info' rfl (by decide) (by decide) rfl _ _ rfl (w.heap.size+1) rfl ((hown.alloc _).alloc _) [.string x1,.string x2] rfl (heap_new2 _ _ _) rfl (rl1 _ _) ?_ ?_ ?_
   ·first | omega | (simp only [List.length_append,List.length_cons,List.length_nil];omega)
   ·have:=HT.out.a.2.2;simp;omega
   intro a' cap' w3 hown' hgrow
   have HTb:=HT.out.alloc (.cells #[.int .i64 xk,.string x1,.string x2,.string xw,.string x3,.string x4,.string x5,.string x6,.string xv] 74)
   obtain ⟨q1,q2⟩:=push_role (x:=⟨x1,x2⟩) HTb (hown.alloc _) hown' hgrow
   have hbx:w3.heap[wr.heap.size]? = some (.cells #[.int .i64 xk,.string x1,.string x2,.string xw,.string x3,.string x4,.string x5,.string x6,.string xv] 74 (0,0)):=(hgrow.block _ (by simp;omega) (own_ne hown (Nat.le_refl _))).trans (heap_old _ (heap_new1 wr _))
   have HO1:=Lib.hid (own_len (n':=rs.length+1) q1 (by simp))
   have HT1:=Lib.hid q2
   have HBX1:=Lib.hid hbx
   obtain ⟨cx,fx,zx⟩:=blk_of hbx
   clear hown hown' hgrow q1 q2 hbx HTb
   by_cases k2:2≤xk
   case neg =>
    have d2:decide (2≤xk)=false:=decide_eq_false k2
    have d4:(xk == 4)=false:=by (rw [beq_eq_false_iff_ne];omega)
    have HR:=Lib.hid (show rolesS ⟨xk,⟨x1,x2⟩,xw,⟨x3,x4⟩,⟨x5,x6⟩,xv⟩=[⟨x1,x2⟩] by simp only [rolesS];rw [if_neg (show ¬ (xk=2∨xk=3) by omega),if_neg (show ¬ xk=4 by omega)])
    clear k2
    go_wp2_with fail
    exact ⟨⟨k+1,rs++[⟨x1,x2⟩],by omega,by go_num,Lib.hid (by simp only [List.length_append,List.length_cons,List.length_nil];omega),Lib.hid (le_snoc HZ.out (x:=⟨x1,x2⟩) l1),HT1,HO1,Lib.hid (by rw [HF.out,HR.out,HE.out] <;> simp)⟩,by simp [intOf];omega⟩
   have d2:decide (2≤xk)=true:=decide_eq_true k2
   by_cases k4:xk≤4
   case neg =>
    have d3:decide (xk≤4)=false:=decide_eq_false k4
    have d4:(xk == 4)=false:=by (rw [beq_eq_false_iff_ne];omega)
    have HR:=Lib.hid (show rolesS ⟨xk,⟨x1,x2⟩,xw,⟨x3,x4⟩,⟨x5,x6⟩,xv⟩=[⟨x1,x2⟩] by simp only [rolesS];rw [if_neg (show ¬ (xk=2∨xk=3) by omega),if_neg (show ¬ xk=4 by omega)])
    clear k2 k4
    go_wp2_with fail
    exact ⟨⟨k+1,rs++[⟨x1,x2⟩],by omega,by go_num,Lib.hid (by simp only [List.length_append,List.length_cons,List.length_nil];omega),Lib.hid (le_snoc HZ.out (x:=⟨x1,x2⟩) l1),HT1,HO1,Lib.hid (by rw [HF.out,HR.out,HE.out] <;> simp)⟩,by simp [intOf];omega⟩
   have d3:decide (xk≤4)=true:=decide_eq_true k4
   have hown:=HO1.out
   go_wp2_with (at_builtin;refine halt_ ?_)
   unfold Halt_
   refine app_own Tryz.underlying23 rl_info' rfl (by decide) (by decide) rfl _ _ rfl (w.heap.size+1) rfl (hown.alloc _) [.string x3,.string x4] rfl (heap_new1 _ _) rfl (rl1 _ _) ?_ ?_ ?_
   ·first | omega | (simp only [List.length_append,List.length_cons,List.length_nil];omega)
   ·have:=HT1.out.a.2.2;simp;omega
   intro a' cap' w3 hown' hgrow
   obtain ⟨q1,q2⟩:=push_role (x:=⟨x3,x4⟩) HT1.out hown hown' hgrow
   have hbx:w3.heap[wr.heap.size]? = some (.cells #[.int .i64 xk,.string x1,.string x2,.string xw,.string x3,.string x4,.string x5,.string x6,.string xv] 74 (0,0)):=(hgrow.block _ (Nat.lt_of_lt_of_le (Array.getElem?_eq_some_iff.1 HBX1.out).1 (by simp)) (own_tag hown HBX1.out (by decide))).trans (heap_old _ HBX1.out)
   have HO2:=Lib.hid (own_len (n':=rs.length+1+1) q1 (by simp))
   have HT2:=Lib.hid q2
   have HBX2:=Lib.hid hbx
   obtain ⟨cx,fx,zx⟩:=blk_of hbx
   clear hown hown' hgrow q1 q2 hbx
   by_cases k44:xk=4
   case neg =>
    have d4:(xk == 4)=false:=by (rw [beq_eq_false_iff_ne];omega)
    have HR:=Lib.hid (show rolesS ⟨xk,⟨x1,x2⟩,xw,⟨x3,x4⟩,⟨x5,x6⟩,xv⟩=[⟨x1,x2⟩,⟨x3,x4⟩] by simp only [rolesS];rw [if_pos (show xk=2∨xk=3 by omega)])
    clear k2 k4 k44
    go_wp2_with fail
    exact ⟨⟨k+1,rs++[⟨x1,x2⟩]++[⟨x3,x4⟩],by omega,by go_num,Lib.hid (by simp only [List.length_append,List.length_cons,List.length_nil];omega),Lib.hid (le_snoc (le_snoc HZ.out (x:=⟨x1,x2⟩) l1) (x:=⟨x3,x4⟩) l2),HT2,HO2,Lib.hid (by rw [HF.out,HR.out,HE.out] <;> simp)⟩,by simp [intOf];omega⟩
   have d4:(xk == 4)=true:=by simp [k44]
   have HR:=Lib.hid (show rolesS ⟨xk,⟨x1,x2⟩,xw,⟨x3,x4⟩,⟨x5,x6⟩,xv⟩=[⟨x1,x2⟩,⟨x3,x4⟩,⟨x5,x6⟩] by simp only [rolesS];rw [if_neg (show ¬ (xk=2∨xk=3) by omega),if_pos k44])
   clear k2 k4 k44
   have hown:=HO2.out
   go_wp2_with (at_builtin;refine halt_ ?_)
   unfold Halt_
   refine app_own Tryz.underlying23 rl_info' rfl (by decide) (by decide) rfl _ _ rfl (w.heap.size+1) rfl (hown.alloc _) [.string x5,.string x6] rfl (heap_new1 _ _) rfl (rl1 _ _) ?_ ?_ ?_
   ·first | omega | (simp only [List.length_append,List.length_cons,List.length_nil];omega)
   ·have:=HT2.out.a.2.2;simp;omega
   intro a' cap' w3 hown' hgrow
   obtain ⟨q1,q2⟩:=push_role (x:=⟨x5,x6⟩) HT2.out hown hown' hgrow
   have HO3:=Lib.hid (own_len (n':=rs.length+1+1+1) q1 (by simp))
   have HT3:=Lib.hid q2
   clear hown hown' hgrow q1 q2
   go_wp2_with fail
   exact ⟨⟨k+1,rs++[⟨x1,x2⟩]++[⟨x3,x4⟩]++[⟨x5,x6⟩],by omega,by go_num,Lib.hid (by simp only [List.length_append,List.length_cons,List.length_nil];omega),Lib.hid (le_snoc (le_snoc (le_snoc HZ.out (x:=⟨x1,x2⟩) l1) (x:=⟨x3,x4⟩) l2) (x:=⟨x5,x6⟩) l3),HT3,HO3,Lib.hid (by rw [HF.out,HR.out,HE.out] <;> simp)⟩,by simp [intOf];omega⟩
  ·obtain ⟨ca,fa,za⟩:=HT.out.a
   have hn0:rs.length≤300:=by omega
   have HE0:=Lib.hid (show rs=l.flatMap rolesS by rw [HE.out,List.take_of_length_le (show l.length≤k by omega)])
   clear hrs HC hk HE
   go_wp2_with fail
   clear ca fa za
   go_loopw [3,49] (fun vo i wr => ∃ (k:Nat) (rs:List Rl),k≤g.length∧i=.int .i64 k∧Hid (rs.length≤300+k)∧Hid (∀ x∈rs,x.le 9223372036854775807)∧Hid (OneAt w #[.slice a0 l.length c0,.slice a1 g.length c1,.slice a2 h.length c2,.slice a3 qs.length c3] wr)∧Hid (wr.ownsRow (w.heap.size+1) 28 2 vo rs.length (rs.flatMap Rl.cells))∧Hid (rs=l.flatMap rolesS++g.take k)) (fun _ i _=>g.length - (intOf i).toNat)
   case atStart=>exact ⟨0,rs,by omega,rfl,Lib.hid hn0,HZ,HT,HO,Lib.hid (by rw [HE0.out];simp)⟩
   case round =>
    clear HT HZ HO hn0 HE0
    obtain ⟨k,rs,hk,rfl,HC,HZ,HT,HO,HE⟩:=hrel
    obtain ⟨oo,oc,rfl⟩:=own_form HO.out
    have hrs:=HC.out
    by_cases hlt:k < g.length
    ·obtain ⟨b1,o1,e1,he1,hc1,hm1',hb1,hx1⟩:=HP.out.rg.pos (by omega)
     simp only [Value.slice.injEq,true_and] at he1
     obtain ⟨rfl,rfl⟩:=he1
     obtain ⟨p0,p1⟩:=rl_cell (w:=wr) (fun j u hu=>(HT.out.low.cell (p:=⟨b1,o1+j,none⟩) hb1).trans (hx1 j u hu)) k hlt
     have hbr:b1 < wr.heap.size:=Nat.lt_of_lt_of_le hb1 HT.out.low.size
     have l1:=HP.out.lg _ (List.getElem_mem hlt)
     have HF:=Lib.hid (take_snoc hlt)
     clear hx1
     generalize g[k]=x at *
     obtain ⟨x1,x2⟩:=x
     have hown:=HO.out
     go_wp2_with (at_builtin;refine halt_ ?_)
     unfold Halt_
     refine app_own Tryz.underlying23 rl_info' rfl (by decide) (by decide) rfl _ _ rfl (w.heap.size+1) rfl ((hown.alloc _).alloc _) [.string x1,.string x2] rfl (heap_new2 _ _ _) rfl (rl1 _ _) ?_ ?_ ?_
     ·first | omega | (simp only [List.length_append,List.length_cons,List.length_nil];omega)
     ·have:=HT.out.a.2.2;simp;omega
     intro a' cap' w3 hown' hgrow
     have HTb:=HT.out.alloc (.cells #[.string x1,.string x2] 28)
     obtain ⟨q1,q2⟩:=push_role (x:=⟨x1,x2⟩) HTb (hown.alloc _) hown' hgrow
     have HO1:=Lib.hid (own_len (n':=rs.length+1) q1 (by simp))
     have HT1:=Lib.hid q2
     clear hown hown' hgrow q1 q2 HTb
     go_wp2_with fail
     exact ⟨⟨k+1,rs++[⟨x1,x2⟩],by omega,by go_num,Lib.hid (by simp only [List.length_append,List.length_cons,List.length_nil];omega),Lib.hid (le_snoc HZ.out (x:=⟨x1,x2⟩) l1),HT1,HO1,Lib.hid (by rw [HF.out,HE.out] <;> simp)⟩,by simp [intOf];omega⟩
    ·obtain ⟨ca,fa,za⟩:=HT.out.a
     have hn0:rs.length≤400:=by omega
     have HE0:=Lib.hid (show rs=l.flatMap rolesS++g by rw [HE.out,List.take_of_length_le (show g.length≤k by omega)])
     clear hrs HC hk HE
     go_wp2_with fail
     clear ca fa za
     go_loopw [3,61] (fun vo i wr => ∃ (k:Nat) (rs:List Rl),k≤h.length∧i=.int .i64 k∧Hid (rs.length≤400+k)∧Hid (∀ x∈rs,x.le 9223372036854775807)∧Hid (OneAt w #[.slice a0 l.length c0,.slice a1 g.length c1,.slice a2 h.length c2,.slice a3 qs.length c3] wr)∧Hid (wr.ownsRow (w.heap.size+1) 28 2 vo rs.length (rs.flatMap Rl.cells))∧Hid (rs=l.flatMap rolesS++g++h.take k)) (fun _ i _=>h.length - (intOf i).toNat)
     case atStart=>exact ⟨0,rs,by omega,rfl,Lib.hid hn0,HZ,HT,HO,Lib.hid (by rw [HE0.out];simp)⟩
     case round =>
      clear HT HZ HO hn0 HE0
      obtain ⟨k,rs,hk,rfl,HC,HZ,HT,HO,HE⟩:=hrel
      obtain ⟨oo,oc,rfl⟩:=own_form HO.out
      have hrs:=HC.out
      by_cases hlt:k < h.length
      ·obtain ⟨b1,o1,e1,he1,hc1,hm1',hb1,hx1⟩:=HP.out.rh.pos (by omega)
       simp only [Value.slice.injEq,true_and] at he1
       obtain ⟨rfl,rfl⟩:=he1
       obtain ⟨p0,p1⟩:=rl_cell (w:=wr) (fun j u hu=>(HT.out.low.cell (p:=⟨b1,o1+j,none⟩) hb1).trans (hx1 j u hu)) k hlt
       have hbr:b1 < wr.heap.size:=Nat.lt_of_lt_of_le hb1 HT.out.low.size
       have l1:=HP.out.lh _ (List.getElem_mem hlt)
       have HF:=Lib.hid (take_snoc hlt)
       clear hx1
       generalize h[k]=x at *
       obtain ⟨x1,x2⟩:=x
       have hown:=HO.out
       go_wp2_with (at_builtin;refine halt_ ?_)
       unfold Halt_
       refine app_own Tryz.underlying23 rl_info' rfl (by decide) (by decide) rfl _ _ rfl (w.heap.size+1) rfl ((hown.alloc _).alloc _) [.string x1,.string x2] rfl (heap_new2 _ _ _) rfl (rl1 _ _) ?_ ?_ ?_
       ·first | omega | (simp only [List.length_append,List.length_cons,List.length_nil];omega)
       ·have:=HT.out.a.2.2;simp;omega
       intro a' cap' w3 hown' hgrow
       have HTb:=HT.out.alloc (.cells #[.string x1,.string x2] 28)
       obtain ⟨q1,q2⟩:=push_role (x:=⟨x1,x2⟩) HTb (hown.alloc _) hown' hgrow
       have HO1:=Lib.hid (own_len (n':=rs.length+1) q1 (by simp))
       have HT1:=Lib.hid q2
       clear hown hown' hgrow q1 q2 HTb
       go_wp2_with fail
       exact ⟨⟨k+1,rs++[⟨x1,x2⟩],by omega,by go_num,Lib.hid (by simp only [List.length_append,List.length_cons,List.length_nil];omega),Lib.hid (le_snoc HZ.out (x:=⟨x1,x2⟩) l1),HT1,HO1,Lib.hid (by rw [HF.out,HE.out] <;> simp)⟩,by simp [intOf];omega⟩
      ·obtain ⟨ca,fa,za⟩:=HT.out.a
       have hn0:rs.length≤500:=by omega
       have HE0:=Lib.hid (show rs=l.flatMap rolesS++g++h by rw [HE.out,List.take_of_length_le (show h.length≤k by omega)])
       clear hrs HC hk HE
       go_wp2_with fail
       clear ca fa za
       go_loopw [3,73] (fun vo i wr => ∃ (k:Nat) (rs:List Rl),k≤qs.length∧i=.int .i64 k∧Hid (rs.length≤500+2 * k)∧Hid (∀ x∈rs,x.le 9223372036854775807)∧Hid (OneAt w #[.slice a0 l.length c0,.slice a1 g.length c1,.slice a2 h.length c2,.slice a3 qs.length c3] wr)∧Hid (wr.ownsRow (w.heap.size+1) 28 2 vo rs.length (rs.flatMap Rl.cells))∧Hid (rs=l.flatMap rolesS++g++h++(qs.take k).flatMap rolesQ)) (fun _ i _=>qs.length - (intOf i).toNat)
       case atStart=>exact ⟨0,rs,by omega,rfl,Lib.hid hn0,HZ,HT,HO,Lib.hid (by rw [HE0.out];simp)⟩
       case round =>
        clear HT HZ HO hn0 HE0
        obtain ⟨k,rs,hk,rfl,HC,HZ,HT,HO,HE⟩:=hrel
        obtain ⟨oo,oc,rfl⟩:=own_form HO.out
        have hrs:=HC.out
        by_cases hlt:k < qs.length
        ·obtain ⟨b1,o1,e1,he1,hc1,hm1',hb1,hx1⟩:=HP.out.rq.pos (by omega)
         simp only [Value.slice.injEq,true_and] at he1
         obtain ⟨rfl,rfl⟩:=he1
         obtain ⟨p0,p1,p2,p3,p4,p5⟩:=q_cell (w:=wr) (fun j u hu=>(HT.out.low.cell (p:=⟨b1,o1+j,none⟩) hb1).trans (hx1 j u hu)) k hlt
         have hbr:b1 < wr.heap.size:=Nat.lt_of_lt_of_le hb1 HT.out.low.size
         have hqo:=HP.out.lq _ (List.getElem_mem hlt)
         have l1:=hqo.1
         have l2:=hqo.2.1
         obtain ⟨wo,wc,hw5⟩:∃ a c,qs[k].w=.slice a ((hqo.2.2).choose).length c:=((hqo.2.2).choose_spec.1).form
         generalize (hqo.2.2).choose.length=nw at hw5
         have HF:=Lib.hid (flat_snocF rolesQ hlt)
         clear hx1 hqo
         generalize qs[k]=x at *
         obtain ⟨xk,⟨x1,x2⟩,⟨x3,x4⟩,xw⟩:=x
         dsimp only at hw5
         subst hw5
         have hown:=HO.out
         go_wp2_with (at_builtin;refine halt_ ?_)
         unfold Halt_
         refine app_own Tryz.underlying23 rl_info' rfl (by decide) (by decide) rfl _ _ rfl (w.heap.size+1) rfl ((hown.alloc _).alloc _) [.string x1,.string x2] rfl (heap_new2 _ _ _) rfl (rl1 _ _) ?_ ?_ ?_
         ·first | omega | (simp only [List.length_append,List.length_cons,List.length_nil];omega)
         ·have:=HT.out.a.2.2;simp;omega
         intro a' cap' w3 hown' hgrow
         have HTb:=HT.out.alloc (.cells #[.int .i64 xk,.string x1,.string x2,.string x3,.string x4,.slice wo nw wc] 50)
         obtain ⟨q1,q2⟩:=push_role (x:=⟨x1,x2⟩) HTb (hown.alloc _) hown' hgrow
         have hbx:w3.heap[wr.heap.size]? = some (.cells #[.int .i64 xk,.string x1,.string x2,.string x3,.string x4,.slice wo nw wc] 50 (0,0)):=(hgrow.block _ (by simp;omega) (own_ne hown (Nat.le_refl _))).trans (heap_old _ (heap_new1 wr _))
         have HO1:=Lib.hid (own_len (n':=rs.length+1) q1 (by simp))
         have HT1:=Lib.hid q2
         have HBX1:=Lib.hid hbx
         obtain ⟨cx,fx,zx⟩:=blk_of hbx
         clear hown hown' hgrow q1 q2 hbx HTb
         by_cases k5:xk=5∨xk=6
         case neg =>
          have d5:(xk == 5)=false:=by (rw [beq_eq_false_iff_ne];omega)
          have d6:(xk == 6)=false:=by (rw [beq_eq_false_iff_ne];omega)
          have HR:=Lib.hid (show rolesQ ⟨xk,⟨x1,x2⟩,⟨x3,x4⟩,.slice wo nw wc⟩=[⟨x1,x2⟩] from if_neg k5)
          clear k5
          go_wp2_with fail
          exact ⟨⟨k+1,rs++[⟨x1,x2⟩],by omega,by go_num,Lib.hid (by simp only [List.length_append,List.length_cons,List.length_nil];omega),Lib.hid (le_snoc HZ.out (x:=⟨x1,x2⟩) l1),HT1,HO1,Lib.hid (by rw [HF.out,HR.out,HE.out] <;> simp)⟩,by simp [intOf];omega⟩
         have HR:=Lib.hid (show rolesQ ⟨xk,⟨x1,x2⟩,⟨x3,x4⟩,.slice wo nw wc⟩=[⟨x1,x2⟩,⟨x3,x4⟩] from if_pos k5)
         by_cases k6:xk=5
         case pos =>
          have d5:(xk == 5)=true:=by simp [k6]
          clear k5 k6
          have hown:=HO1.out
          go_wp2_with (at_builtin;refine halt_ ?_)
          unfold Halt_
          refine app_own Tryz.underlying23 rl_info' rfl (by decide) (by decide) rfl _ _ rfl (w.heap.size+1) rfl (hown.alloc _) [.string x3,.string x4] rfl (heap_new1 _ _) rfl (rl1 _ _) ?_ ?_ ?_
          ·first | omega | (simp only [List.length_append,List.length_cons,List.length_nil];omega)
          ·have:=HT1.out.a.2.2;simp;omega
          intro a' cap' w3 hown' hgrow
          obtain ⟨q1,q2⟩:=push_role (x:=⟨x3,x4⟩) HT1.out hown hown' hgrow
          have HO2:=Lib.hid (own_len (n':=rs.length+1+1) q1 (by simp))
          have HT2:=Lib.hid q2
          clear hown hown' hgrow q1 q2
          go_wp2_with fail
          exact ⟨⟨k+1,rs++[⟨x1,x2⟩]++[⟨x3,x4⟩],by omega,by go_num,Lib.hid (by simp only [List.length_append,List.length_cons,List.length_nil];omega),Lib.hid (le_snoc (le_snoc HZ.out (x:=⟨x1,x2⟩) l1) (x:=⟨x3,x4⟩) l2),HT2,HO2,Lib.hid (by rw [HF.out,HR.out,HE.out] <;> simp)⟩,by simp [intOf];omega⟩
         have d5:(xk == 5)=false:=by (rw [beq_eq_false_iff_ne];omega)
         have d6:(xk == 6)=true:=by (rw [beq_iff_eq];omega)
         clear k5 k6
         have hown:=HO1.out
         go_wp2_with (at_builtin;refine halt_ ?_)
         unfold Halt_
         refine app_own Tryz.underlying23 rl_info' rfl (by decide) (by decide) rfl _ _ rfl (w.heap.size+1) rfl (hown.alloc _) [.string x3,.string x4] rfl (heap_new1 _ _) rfl (rl1 _ _) ?_ ?_ ?_
         ·first | omega | (simp only [List.length_append,List.length_cons,List.length_nil];omega)
         ·have:=HT1.out.a.2.2;simp;omega
         intro a' cap' w3 hown' hgrow
         obtain ⟨q1,q2⟩:=push_role (x:=⟨x3,x4⟩) HT1.out hown hown' hgrow
         have HO2:=Lib.hid (own_len (n':=rs.length+1+1) q1 (by simp))
         have HT2:=Lib.hid q2
         clear hown hown' hgrow q1 q2
         go_wp2_with fail
         exact ⟨⟨k+1,rs++[⟨x1,x2⟩]++[⟨x3,x4⟩],by omega,by go_num,Lib.hid (by simp only [List.length_append,List.length_cons,List.length_nil];omega),Lib.hid (le_snoc (le_snoc HZ.out (x:=⟨x1,x2⟩) l1) (x:=⟨x3,x4⟩) l2),HT2,HO2,Lib.hid (by rw [HF.out,HR.out,HE.out] <;> simp)⟩,by simp [intOf];omega⟩
        ·have HSL:=Lib.hid (Sl.of_own HO.out).a
         have HA:=Lib.hid (show rs=allRoles l g h qs by rw [HE.out,List.take_of_length_le (show qs.length≤k by omega)];rfl)
         go_wp2
         go_ret
         exact ⟨_,rfl,by rw [← HA.out];exact HSL.out,by rw [← HA.out];omega,by rw [← HA.out];exact HZ.out,HT.out.low⟩
end
section
open Go.RowKit Go.Shelf

theorem insAll_snocB:∀ (acc l:List ByteArray) (x:ByteArray),insAllB acc (l++[x])=insSB (insAllB acc l) x
 | _,[],_=>rfl
 | acc,a :: l,x=>insAll_snocB (insSB acc a) l x
theorem new_snoc (l:List ByteArray) (x:ByteArray):newB (l++[x])=insSB (newB l) x:=insAll_snocB [] l x
def NewAt (w:World) (v:Value) (xs:List ByteArray) (n:Nat):Prop:=SlA w 1 v (newB xs).length (strs (newB xs))∧xs.length≤n
theorem NewAt.below {w w':World} {v:Value} {xs:List ByteArray} {n:Nat} (h:NewAt w v xs n) (hb:Below w.heap.size w w'):NewAt w' v xs n:=⟨h.1.below hb,h.2⟩
theorem NewAt.mono {w:World} {v:Value} {xs:List ByteArray} {n m:Nat} (h:NewAt w v xs n) (hm:n≤m):NewAt w v xs m:=⟨h.1,Nat.le_trans h.2 hm⟩
theorem NewAt.nil (w:World):NewAt w (.slice none 0 0) [] 0:=⟨(Sl.nil _ _).a,Nat.le_refl _⟩
theorem NewAt.eq {w:World} {v:Value} {xs ys:List ByteArray} {n:Nat} (h:NewAt w v xs n) (e:ys=xs):NewAt w v ys n:=by rw [e];exact h
theorem put_new (v:Value) (n:Nat) (xs:List ByteArray) (s:ByteArray) (w:World) (h:NewAt w v xs n) (hn:n≤100000) :
  Calls Tryz.prog 135 #[v,.string s] w fun e w' => ∃ v',e=.returned v'∧NewAt w' v' (xs++[s]) (n+1)∧Below w.heap.size w w':=by
 refine (ref1_PutB v (newB xs) s w h.1 (Nat.le_trans (new_len xs) (Nat.le_trans h.2 hn))).mono ?_
 rintro e w' ⟨v',he,hr,hb⟩
 exact ⟨v',he,⟨by rw [new_snoc];exact hr,by rw [List.length_append];exact Nat.succ_le_succ h.2⟩,hb⟩
def whoS (s:St):List ByteArray:=if s.k=1 then [s.who] else []
def viaS (s:St):List ByteArray:=if s.k=3 then [s.via] else []
def allPrins (l:List St) (g h:List Rl) (qs:List Qv) (F:Qv→List ByteArray):List ByteArray:=(allRoles l g h qs).map Rl.o++l.flatMap whoS++qs.flatMap F
def allNames (l:List St) (g h:List Rl) (qs:List Qv):List ByteArray:=(allRoles l g h qs).map Rl.n++l.flatMap viaS
def WhoF (w:World) (qs:List Qv) (F:Qv→List ByteArray):Prop:=∀ q∈qs,SlA w 1 q.w (F q).length (strs (F q))∧(F q).length≤40
theorem WhoF.below {w w':World} {qs:List Qv} {F:Qv→List ByteArray} (h:WhoF w qs F) (hb:Below w.heap.size w w'):WhoF w' qs F:=fun q hq=>⟨(h q hq).1.below hb,(h q hq).2⟩

set_option maxRecDepth 100000 in
set_option maxHeartbeats 8000000 in
theorem ref5_PrinsL (v0 v1 v2 v3:Value) (l:List St) (g h:List Rl) (qs:List Qv) (w:World) (hp:PolAt w v0 v1 v2 v3 l g h qs) (hl:l.length≤100) (hg:g.length≤100) (hh:h.length≤100) (hq:qs.length≤100) (F:Qv→List ByteArray) (hF:WhoF w qs F) :
  Calls Tryz.prog 55 #[pv v0 v1 v2 v3] w fun e w' => ∃ v,e=.returned v∧NewAt w' v (allPrins l g h qs F) 10000∧Below w.heap.size w w':=by
 have HP:=Lib.hid hp
 have HR:=Lib.hid (fun W (hb:Below w.heap.size w W)=>ref5_RolesL v0 v1 v2 v3 l g h qs W (hp.below hb) hl hg hh hq)
 have HQ4:=Lib.hid hF
 obtain ⟨a0,c0,rfl⟩:=hp.rs.form
 obtain ⟨a1,c1,rfl⟩:=hp.rg.form
 obtain ⟨a2,c2,rfl⟩:=hp.rh.form
 obtain ⟨a3,c3,rfl⟩:=hp.rq.form
 have HT:=Lib.hid (show OneAt w #[.slice a0 l.length c0,.slice a1 g.length c1,.slice a2 h.length c2,.slice a3 qs.length c3] (w.alloc (.cells #[.slice a0 l.length c0,.slice a1 g.length c1,.slice a2 h.length c2,.slice a3 qs.length c3] 26)) from ⟨Blk.new w _ _,(Below.refl _ _).alloc (Nat.le_refl _) _⟩)
 clear hp hF
 go_enter Tryz.func55,Tryz.ntmps55
 go_wp2_with fail
 refine (HR.out _ HT.out.low).mono ?_
 rintro e w1 ⟨vr,rfl,hr1,hr2,hr3,hb1⟩
 have HT:=Lib.hid (HT.out.later hb1)
 have HRES:=Lib.hid (show allPrins l g h qs F=((allRoles l g h qs).map Rl.o++l.flatMap whoS)++qs.flatMap F from rfl)
 generalize allRoles l g h qs=rs at *
 have HRS:=Lib.hid hr1
 have HRL:=Lib.hid hr3
 obtain ⟨ro,rc,rfl⟩:=hr1.form
 clear hb1 hr1 hr3
 go_wp2_with fail
 go_loopw [3,15] (fun vo i wr => ∃ (k:Nat) (vx:Value),k≤rs.length∧vx=vo∧i=.int .i64 k∧Hid (NewAt wr vx ((rs.take k).map Rl.o) k)∧Hid (OneAt w #[.slice a0 l.length c0,.slice a1 g.length c1,.slice a2 h.length c2,.slice a3 qs.length c3] wr)∧Hid (Below w1.heap.size w1 wr)) (fun _ i _=>rs.length - (intOf i).toNat)
 case atStart=>exact ⟨0,_,by omega,rfl,rfl,Lib.hid (NewAt.nil _),HT,Lib.hid (Below.refl _ _)⟩
 case round =>
  clear HT
  obtain ⟨k,vx,hk,rfl,rfl,HO,HT,HB⟩:=hrel
  by_cases hlt:k < rs.length
  ·obtain ⟨b1,o1,e1,he1,hc1,hm1',hb1,hx1⟩:=HRS.out.pos (by omega)
   simp only [Value.slice.injEq,true_and] at he1
   obtain ⟨rfl,rfl⟩:=he1
   obtain ⟨p0,p1⟩:=rl_cell (w:=wr) (fun j u hu=>(HB.out.cell (p:=⟨b1,o1+j,none⟩) hb1).trans (hx1 j u hu)) k hlt
   have hbr:b1 < wr.heap.size:=Nat.lt_of_lt_of_le hb1 HB.out.size
   have HF:=Lib.hid (take_snoc hlt)
   clear hx1
   generalize rs[k]=x at *
   obtain ⟨x1,x2⟩:=x
   have hba:Below wr.heap.size wr (wr.alloc (.cells #[.string x1,.string x2] 28)):=(Below.refl _ _).alloc (Nat.le_refl _) _
   have PC:=Lib.hid (put_new vx k _ x1 _ (HO.out.below hba) (by omega))
   have HT2:=Lib.hid (HT.out.later hba)
   have HB2:=Lib.hid (HB.out.trans (hba.mono HB.out.size))
   clear hba
   go_wp2_with fail
   refine PC.out.mono ?_
   rintro e w3 ⟨vz,rfl,hr,hb3⟩
   have HR3:=Lib.hid hr
   have HT3:=Lib.hid (HT2.out.later hb3)
   have HB3:=Lib.hid (HB2.out.trans (hb3.mono HB2.out.size))
   clear hr hb3
   go_wp2
   exact ⟨⟨k+1,_,by omega,rfl,by go_num,Lib.hid (HR3.out.eq (by rw [HF.out,List.map_append];rfl)),HT3,HB3⟩,by simp [intOf];omega⟩
  ·obtain ⟨ca,fa,za⟩:=HT.out.a
   have HO:=Lib.hid ((HO.out.mono (show k≤1000 by omega)).eq (ys:=rs.map Rl.o) (by rw [List.take_of_length_le (show rs.length≤k by omega)]))
   clear HB HRS HRL hk
   go_wp2_with fail
   clear ca fa za
   go_loopw [3,27] (fun vo i wr => ∃ (k:Nat) (vx:Value),k≤l.length∧vx=vo∧i=.int .i64 k∧Hid (NewAt wr vx (rs.map Rl.o++(l.take k).flatMap whoS) (1000+k))∧Hid (OneAt w #[.slice a0 l.length c0,.slice a1 g.length c1,.slice a2 h.length c2,.slice a3 qs.length c3] wr)) (fun _ i _=>l.length - (intOf i).toNat)
   case atStart=>exact ⟨0,_,by omega,rfl,rfl,Lib.hid (HO.out.eq (by simp)),HT⟩
   case round =>
    clear HT HO
    obtain ⟨k,vx,hk,rfl,rfl,HO,HT⟩:=hrel
    by_cases hlt:k < l.length
    ·obtain ⟨b1,o1,e1,he1,hc1,hm1',hb1,hx1⟩:=HP.out.rs.pos (by omega)
     simp only [Value.slice.injEq,true_and] at he1
     obtain ⟨rfl,rfl⟩:=he1
     obtain ⟨p0,p1,p2,p3,p4,p5,p6,p7,p8⟩:=st_cell (w:=wr) (fun j u hu=>(HT.out.low.cell (p:=⟨b1,o1+j,none⟩) hb1).trans (hx1 j u hu)) k hlt
     have hbr:b1 < wr.heap.size:=Nat.lt_of_lt_of_le hb1 HT.out.low.size
     have HF:=Lib.hid (flat_snocF whoS hlt)
     clear hx1
     generalize l[k]=x at *
     obtain ⟨xk,⟨x1,x2⟩,xw,⟨x3,x4⟩,⟨x5,x6⟩,xv⟩:=x
     have hba:Below wr.heap.size wr (wr.alloc (.cells #[.int .i64 xk,.string x1,.string x2,.string xw,.string x3,.string x4,.string x5,.string x6,.string xv] 74)):=(Below.refl _ _).alloc (Nat.le_refl _) _
     have PC:=Lib.hid (put_new vx (1000+k) _ xw _ (HO.out.below hba) (by omega))
     have HT2:=Lib.hid (HT.out.later hba)
     have HO2:=Lib.hid (HO.out.below hba)
     clear hba
     by_cases hkk:xk=1
     ·have d1:(xk == 1)=true:=by simp [hkk]
      have HK:=Lib.hid (show whoS ⟨xk,⟨x1,x2⟩,xw,⟨x3,x4⟩,⟨x5,x6⟩,xv⟩=[xw] from if_pos hkk)
      clear hkk
      go_wp2_with fail
      refine PC.out.mono ?_
      rintro e w3 ⟨vz,rfl,hr,hb3⟩
      have HR3:=Lib.hid hr
      have HT3:=Lib.hid (HT2.out.later hb3)
      clear hr hb3
      go_wp2
      exact ⟨⟨k+1,_,by omega,rfl,by go_num,Lib.hid (HR3.out.eq (by rw [HF.out,HK.out,List.append_assoc])),HT3⟩,by simp [intOf];omega⟩
     ·have d1:(xk == 1)=false:=by simp [hkk]
      have HK:=Lib.hid (show whoS ⟨xk,⟨x1,x2⟩,xw,⟨x3,x4⟩,⟨x5,x6⟩,xv⟩=[] from if_neg hkk)
      clear hkk
      go_wp2
      exact ⟨⟨k+1,_,by omega,rfl,by go_num,Lib.hid ((HO2.out.mono (by omega)).eq (by rw [HF.out,HK.out,List.append_nil])),HT2⟩,by simp [intOf];omega⟩
    ·obtain ⟨ca,fa,za⟩:=HT.out.a
     have HO:=Lib.hid ((HO.out.mono (show 1000+k≤1100 by omega)).eq (ys:=rs.map Rl.o++l.flatMap whoS) (by rw [List.take_of_length_le (show l.length≤k by omega)]))
     clear hk
     go_wp2_with fail
     clear ca fa za
     go_loopw [3,42] (fun vo i wr => ∃ (k:Nat) (vx:Value),k≤qs.length∧vx=vo∧i=.int .i64 k∧Hid (NewAt wr vx (rs.map Rl.o++l.flatMap whoS++(qs.take k).flatMap F) (1100+40 * k))∧Hid (OneAt w #[.slice a0 l.length c0,.slice a1 g.length c1,.slice a2 h.length c2,.slice a3 qs.length c3] wr)) (fun _ i _=>qs.length - (intOf i).toNat)
     case atStart=>exact ⟨0,_,by omega,rfl,rfl,Lib.hid (HO.out.eq (by simp)),HT⟩
     case round =>
      clear HT HO
      obtain ⟨k,vx,hk,rfl,rfl,HO,HT⟩:=hrel
      by_cases hlt:k < qs.length
      ·obtain ⟨b1,o1,e1,he1,hc1,hm1',hb1,hx1⟩:=HP.out.rq.pos (by omega)
       simp only [Value.slice.injEq,true_and] at he1
       obtain ⟨rfl,rfl⟩:=he1
       obtain ⟨p0,p1,p2,p3,p4,p5⟩:=q_cell (w:=wr) (fun j u hu=>(HT.out.low.cell (p:=⟨b1,o1+j,none⟩) hb1).trans (hx1 j u hu)) k hlt
       have hbr:b1 < wr.heap.size:=Nat.lt_of_lt_of_le hb1 HT.out.low.size
       obtain ⟨hu1,hu2⟩:=HQ4.out _ (List.getElem_mem hlt)
       have HF:=Lib.hid (flat_snocF F hlt)
       generalize F qs[k]=us at hu1 hu2 HF
       have HU:=Lib.hid hu1
       obtain ⟨wo,wc,hw5⟩:=hu1.form
       clear hx1 hu1
       generalize qs[k]=x at *
       obtain ⟨xk,⟨x1,x2⟩,⟨x3,x4⟩,xw⟩:=x
       dsimp only at hw5 HU
       subst hw5
       obtain ⟨nw,hnw⟩:∃ nw,nw=us.length:=⟨_,rfl⟩
       have HNW:=Lib.hid hnw
       rw [← hnw] at p5 HU hu2
       clear hnw
       have hba:Below wr.heap.size wr (wr.alloc (.cells #[.int .i64 xk,.string x1,.string x2,.string x3,.string x4,.slice wo nw wc] 50)):=(Below.refl _ _).alloc (Nat.le_refl _) _
       have HT2:=Lib.hid (HT.out.later hba)
       have HO2:=Lib.hid (HO.out.below hba)
       clear hba
       go_wp2_with fail
       go_loopw [3,49] (fun vo i wr => ∃ (j:Nat) (vx:Value),j≤nw∧vx=vo∧i=.int .i64 j∧Hid (NewAt wr vx (rs.map Rl.o++l.flatMap whoS++(qs.take k).flatMap F++us.take j) (1100+40 * k+j))∧Hid (OneAt w #[.slice a0 l.length c0,.slice a1 g.length c1,.slice a2 h.length c2,.slice (some ⟨b1,o1,none⟩) qs.length c3] wr)) (fun _ i _=>nw - (intOf i).toNat)
       case atStart=>exact ⟨0,_,by omega,rfl,rfl,Lib.hid (HO2.out.eq (by simp)),HT2⟩
       case round =>
        clear HT HO HT2 HO2
        obtain ⟨j,vx,hj,rfl,rfl,HO,HT⟩:=hrel
        by_cases hlj:j < nw
        ·obtain ⟨b1,o1,e1,he1,hc1,hm1',hb1,hx1⟩:=HU.out.pos (by omega)
         simp only [Value.slice.injEq,true_and] at he1
         obtain ⟨rfl,rfl⟩:=he1
         have hju:j < us.length:=by have:=HNW.out;omega
         have p0:=(HT.out.low.cell (p:=⟨b1,o1+j,none⟩) hb1).trans (hx1 j _ (strs_get hju))
         have hbr:b1 < wr.heap.size:=Nat.lt_of_lt_of_le hb1 HT.out.low.size
         have PC:=Lib.hid (put_new vx (1100+40 * k+j) _ us[j] _ HO.out (by omega))
         have HFJ:=Lib.hid (take_snoc hju)
         clear hx1
         generalize us[j]=s at *
         go_wp2_with fail
         refine PC.out.mono ?_
         rintro e w3 ⟨vz,rfl,hr,hb3⟩
         have HR3:=Lib.hid hr
         have HT3:=Lib.hid (HT.out.later hb3)
         clear hr hb3
         go_wp2
         exact ⟨⟨j+1,_,by omega,rfl,by go_num,Lib.hid (HR3.out.eq (by rw [HFJ.out];simp only [List.append_assoc])),HT3⟩,by simp [intOf];omega⟩
        ·have HO3:=Lib.hid ((HO.out.mono (show 1100+40 * k+j≤1100+40 * (k+1) by omega)).eq (ys:=rs.map Rl.o++l.flatMap whoS++(qs.take (k+1)).flatMap F) (by rw [HF.out,List.take_of_length_le (show us.length≤j by have:=HNW.out;omega)];simp only [List.append_assoc]))
         go_wp2
         exact ⟨⟨k+1,_,by omega,rfl,by go_num,HO3,HT⟩,by simp [intOf];omega⟩
      ·have HO3:=Lib.hid ((HO.out.mono (show 1100+40 * k≤10000 by omega)).eq (ys:=allPrins l g h qs F) (by rw [HRES.out,List.take_of_length_le (show qs.length≤k by omega)]))
       go_wp2
       go_ret
       exact ⟨_,rfl,HO3.out,HT.out.low⟩

set_option maxRecDepth 100000 in
set_option maxHeartbeats 8000000 in
theorem ref5_NamesL (v0 v1 v2 v3:Value) (l:List St) (g h:List Rl) (qs:List Qv) (w:World) (hp:PolAt w v0 v1 v2 v3 l g h qs) (hl:l.length≤100) (hg:g.length≤100) (hh:h.length≤100) (hq:qs.length≤100)  :
  Calls Tryz.prog 57 #[pv v0 v1 v2 v3] w fun e w' => ∃ v,e=.returned v∧NewAt w' v (allNames l g h qs) 10000∧Below w.heap.size w w':=by
 have HP:=Lib.hid hp
 have HR:=Lib.hid (fun W (hb:Below w.heap.size w W)=>ref5_RolesL v0 v1 v2 v3 l g h qs W (hp.below hb) hl hg hh hq)
 obtain ⟨a0,c0,rfl⟩:=hp.rs.form
 obtain ⟨a1,c1,rfl⟩:=hp.rg.form
 obtain ⟨a2,c2,rfl⟩:=hp.rh.form
 obtain ⟨a3,c3,rfl⟩:=hp.rq.form
 have HT:=Lib.hid (show OneAt w #[.slice a0 l.length c0,.slice a1 g.length c1,.slice a2 h.length c2,.slice a3 qs.length c3] (w.alloc (.cells #[.slice a0 l.length c0,.slice a1 g.length c1,.slice a2 h.length c2,.slice a3 qs.length c3] 26)) from ⟨Blk.new w _ _,(Below.refl _ _).alloc (Nat.le_refl _) _⟩)
 clear hp 
 go_enter Tryz.func57,Tryz.ntmps57
 go_wp2_with fail
 refine (HR.out _ HT.out.low).mono ?_
 rintro e w1 ⟨vr,rfl,hr1,hr2,hr3,hb1⟩
 have HT:=Lib.hid (HT.out.later hb1)
 have HRES:=Lib.hid (show allNames l g h qs=((allRoles l g h qs).map Rl.n++l.flatMap viaS)  from rfl)
 generalize allRoles l g h qs=rs at *
 have HRS:=Lib.hid hr1
 have HRL:=Lib.hid hr3
 obtain ⟨ro,rc,rfl⟩:=hr1.form
 clear hb1 hr1 hr3
 go_wp2_with fail
 go_loopw [3,11] (fun vo i wr => ∃ (k:Nat) (vx:Value),k≤rs.length∧vx=vo∧i=.int .i64 k∧Hid (NewAt wr vx ((rs.take k).map Rl.n) k)∧Hid (OneAt w #[.slice a0 l.length c0,.slice a1 g.length c1,.slice a2 h.length c2,.slice a3 qs.length c3] wr)∧Hid (Below w1.heap.size w1 wr)) (fun _ i _=>rs.length - (intOf i).toNat)
 case atStart=>exact ⟨0,_,by omega,rfl,rfl,Lib.hid (NewAt.nil _),HT,Lib.hid (Below.refl _ _)⟩
 case round =>
  clear HT
  obtain ⟨k,vx,hk,rfl,rfl,HO,HT,HB⟩:=hrel
  by_cases hlt:k < rs.length
  ·obtain ⟨b1,o1,e1,he1,hc1,hm1',hb1,hx1⟩:=HRS.out.pos (by omega)
   simp only [Value.slice.injEq,true_and] at he1
   obtain ⟨rfl,rfl⟩:=he1
   obtain ⟨p0,p1⟩:=rl_cell (w:=wr) (fun j u hu=>(HB.out.cell (p:=⟨b1,o1+j,none⟩) hb1).trans (hx1 j u hu)) k hlt
   have hbr:b1 < wr.heap.size:=Nat.lt_of_lt_of_le hb1 HB.out.size
   have HF:=Lib.hid (take_snoc hlt)
   clear hx1
   generalize rs[k]=x at *
   obtain ⟨x1,x2⟩:=x
   have hba:Below wr.heap.size wr (wr.alloc (.cells #[.string x1,.string x2] 28)):=(Below.refl _ _).alloc (Nat.le_refl _) _
   have PC:=Lib.hid (put_new vx k _ x2 _ (HO.out.below hba) (by omega))
   have HT2:=Lib.hid (HT.out.later hba)
   have HB2:=Lib.hid (HB.out.trans (hba.mono HB.out.size))
   clear hba
   go_wp2_with fail
   refine PC.out.mono ?_
   rintro e w3 ⟨vz,rfl,hr,hb3⟩
   have HR3:=Lib.hid hr
   have HT3:=Lib.hid (HT2.out.later hb3)
   have HB3:=Lib.hid (HB2.out.trans (hb3.mono HB2.out.size))
   clear hr hb3
   go_wp2
   exact ⟨⟨k+1,_,by omega,rfl,by go_num,Lib.hid (HR3.out.eq (by rw [HF.out,List.map_append];rfl)),HT3,HB3⟩,by simp [intOf];omega⟩
  ·obtain ⟨ca,fa,za⟩:=HT.out.a
   have HO:=Lib.hid ((HO.out.mono (show k≤1000 by omega)).eq (ys:=rs.map Rl.n) (by rw [List.take_of_length_le (show rs.length≤k by omega)]))
   clear HB HRS HRL hk
   go_wp2_with fail
   clear ca fa za
   go_loopw [3,23] (fun vo i wr => ∃ (k:Nat) (vx:Value),k≤l.length∧vx=vo∧i=.int .i64 k∧Hid (NewAt wr vx (rs.map Rl.n++(l.take k).flatMap viaS) (1000+k))∧Hid (OneAt w #[.slice a0 l.length c0,.slice a1 g.length c1,.slice a2 h.length c2,.slice a3 qs.length c3] wr)) (fun _ i _=>l.length - (intOf i).toNat)
   case atStart=>exact ⟨0,_,by omega,rfl,rfl,Lib.hid (HO.out.eq (by simp)),HT⟩
   case round =>
    clear HT HO
    obtain ⟨k,vx,hk,rfl,rfl,HO,HT⟩:=hrel
    by_cases hlt:k < l.length
    ·obtain ⟨b1,o1,e1,he1,hc1,hm1',hb1,hx1⟩:=HP.out.rs.pos (by omega)
     simp only [Value.slice.injEq,true_and] at he1
     obtain ⟨rfl,rfl⟩:=he1
     obtain ⟨p0,p1,p2,p3,p4,p5,p6,p7,p8⟩:=st_cell (w:=wr) (fun j u hu=>(HT.out.low.cell (p:=⟨b1,o1+j,none⟩) hb1).trans (hx1 j u hu)) k hlt
     have hbr:b1 < wr.heap.size:=Nat.lt_of_lt_of_le hb1 HT.out.low.size
     have HF:=Lib.hid (flat_snocF viaS hlt)
     clear hx1
     generalize l[k]=x at *
     obtain ⟨xk,⟨x1,x2⟩,xw,⟨x3,x4⟩,⟨x5,x6⟩,xv⟩:=x
     have hba:Below wr.heap.size wr (wr.alloc (.cells #[.int .i64 xk,.string x1,.string x2,.string xw,.string x3,.string x4,.string x5,.string x6,.string xv] 74)):=(Below.refl _ _).alloc (Nat.le_refl _) _
     have PC:=Lib.hid (put_new vx (1000+k) _ xv _ (HO.out.below hba) (by omega))
     have HT2:=Lib.hid (HT.out.later hba)
     have HO2:=Lib.hid (HO.out.below hba)
     clear hba
     by_cases hkk:xk=3
     ·have d1:(xk == 3)=true:=by simp [hkk]
      have HK:=Lib.hid (show viaS ⟨xk,⟨x1,x2⟩,xw,⟨x3,x4⟩,⟨x5,x6⟩,xv⟩=[xv] from if_pos hkk)
      clear hkk
      go_wp2_with fail
      refine PC.out.mono ?_
      rintro e w3 ⟨vz,rfl,hr,hb3⟩
      have HR3:=Lib.hid hr
      have HT3:=Lib.hid (HT2.out.later hb3)
      clear hr hb3
      go_wp2
      exact ⟨⟨k+1,_,by omega,rfl,by go_num,Lib.hid (HR3.out.eq (by rw [HF.out,HK.out,List.append_assoc])),HT3⟩,by simp [intOf];omega⟩
     ·have d1:(xk == 3)=false:=by simp [hkk]
      have HK:=Lib.hid (show viaS ⟨xk,⟨x1,x2⟩,xw,⟨x3,x4⟩,⟨x5,x6⟩,xv⟩=[] from if_neg hkk)
      clear hkk
      go_wp2
      exact ⟨⟨k+1,_,by omega,rfl,by go_num,Lib.hid ((HO2.out.mono (by omega)).eq (by rw [HF.out,HK.out,List.append_nil])),HT2⟩,by simp [intOf];omega⟩
    ·have HO3:=Lib.hid ((HO.out.mono (show 1000+k≤10000 by omega)).eq (ys:=allNames l g h qs) (by rw [HRES.out,List.take_of_length_le (show l.length≤k by omega)]))
     go_wp2
     go_ret
     exact ⟨_,rfl,HO3.out,HT.out.low⟩
end
section
open Go.RowKit Go.Shelf

abbrev Pr:=Rl × ByteArray
def pcells (p:Pr):List Value:=[.string p.1.o,.string p.1.n,.string p.2]
theorem pcells_len (p:Pr):(pcells p).length=3:=rfl
theorem pr_cell {w:World} {b off:Nat} {l:List Pr} (h:∀ j u,(l.flatMap pcells)[j]? = some u→w.cell? ⟨b,off+j,none⟩=some u) (k:Nat) (hk:k < l.length) :
  w.cell? ⟨b,off+k * 3,none⟩=some (.string l[k].1.o)∧w.cell? ⟨b,off+k * 3+1,none⟩=some (.string l[k].1.n)∧w.cell? ⟨b,off+k * 3+2,none⟩=some (.string l[k].2):=by
 have hx:l[k]? = some l[k]:=List.getElem?_eq_getElem hk
 have h0:=h _ _ ((flat_get pcells 3 pcells_len l k 0 (by omega) _ hx).trans rfl)
 have h1:=h _ _ ((flat_get pcells 3 pcells_len l k 1 (by omega) _ hx).trans rfl)
 have h2:=h _ _ ((flat_get pcells 3 pcells_len l k 2 (by omega) _ hx).trans rfl)
 simp only [Nat.add_zero,← Nat.add_assoc] at h0 h1 h2
 exact ⟨h0,h1,h2⟩
theorem prs_one (l:List Pr):∀ u∈l.flatMap pcells,u.oneCell'=true:=by
 intro u hu
 obtain ⟨x,_,hx⟩:=List.mem_flatMap.1 hu
 simp only [pcells,List.mem_cons,List.not_mem_nil,or_false] at hx
 rcases hx with rfl | rfl | rfl <;> rfl
theorem pr_info:(Tryz.prog.info? 78).map (fun i=>(i.zero,i.size,i.bytes))=some (some (.agg #[.string emp,.string emp,.string emp]),3,48):=by kernel_rfl
theorem hasP_yes {l:List Pr} {r:Rl} {x:ByteArray} {k:Nat} (hk:k < l.length) (h1:l[k].1=r) (h2:l[k].2=x):hasP l r x=true:=by
 rw [hasP_iff,← h1,← h2];exact List.getElem_mem hk
theorem hasP_end {l:List Pr} {r:Rl} {x:ByteArray} {k:Nat} (hk:¬ k < l.length) (h:∀ j (hj:j < l.length),j < k→¬ (l[j].1=r∧l[j].2=x)):hasP l r x=false:=by
 rw [← Bool.not_eq_true,hasP_iff]
 intro hm
 obtain ⟨j,hj,e⟩:=List.getElem_of_mem hm
 exact h j hj (by omega) ⟨by rw [e],by rw [e]⟩
set_option maxRecDepth 100000 in
set_option maxHeartbeats 2000000 in
theorem ref11_In (va:Value) (l:List Pr) (r:Rl) (x:ByteArray) (w:World) (ha:SlA w 3 va l.length (l.flatMap pcells)) :
  Calls Tryz.prog 45 #[va,rv r,.string x] w fun e w'=>e=.returned (.bool (hasP l r x))∧Below w.heap.size w w':=by
 have hmax:=ha.max
 have hEq:=role_eql
 by_cases h0:0 < l.length
 ·obtain ⟨b1,o1,c1,rfl,hc1,hm1,hb1,hx1⟩:=ha.pos h0
  have HX1:=Lib.hid hx1
  have HS:=Lib.hid (fun k (hl:k < l.length) (e1:l[k].1=r) (e2:l[k].2=x)=>hasP_yes hl e1 e2)
  have HE:=Lib.hid (fun k (hk:¬ k < l.length) h=>hasP_end (l:=l) (r:=r) (x:=x) (k:=k) hk h)
  have HD:=Lib.hid (fun k (hl:k < l.length)=>show (eqRl l[k].1 r=true↔l[k].1=r) from decide_eq_true_iff)
  generalize hasP l r x=res at HS HE ⊢
  clear ha hx1
  obtain ⟨h1,h2⟩:=r
  go_enter Tryz.func45,Tryz.ntmps45
  go_wp2
  go_loopw [11] (fun i wr => ∃ k:Nat,k≤l.length∧i=.int .i64 k∧Below w.heap.size w wr∧Blk wr w.heap.size #[.string h1,.string h2]∧Hid (∀ j (hj:j < l.length),j < k→¬ (l[j].1=⟨h1,h2⟩∧l[j].2=x))) (fun i _=>l.length - (intOf i).toNat)
  case atStart=>exact ⟨0,by omega,rfl,(Below.refl _ _).alloc (Nat.le_refl _) _,Blk.new _ _ _,Lib.hid (fun _ _ h=>absurd h (by omega))⟩
  case round =>
   obtain ⟨k,hk,rfl,hbw,hblk,HT⟩:=hrel
   have HBW:=Lib.hid hbw
   have HBK:=Lib.hid hblk
   have hz:=hbw.size
   obtain ⟨cs,fs,zs⟩:=hblk
   by_cases hlt:k < l.length
   ·obtain ⟨p0,p1,p2⟩:=pr_cell (w:=wr) (fun j u hu=>(hbw.cell (p:=⟨b1,o1+j,none⟩) hb1).trans (HX1.out j u hu)) k hlt
    have hb1':b1 < wr.heap.size:=Nat.lt_of_lt_of_le hb1 hz
    have hD:=HD.out k hlt
    have HSk:=Lib.hid (HS.out k hlt)
    have HN:=Lib.hid (fun (hn:¬ (l[k].1=⟨h1,h2⟩∧l[k].2=x)) j (hj:j < l.length) (hjk:j < k+1)=>show ¬ (l[j].1=⟨h1,h2⟩∧l[j].2=x) by
     by_cases hjk':j < k
     ·exact HT.out j hj hjk'
     ·obtain rfl:j=k:=by omega
      exact hn)
    clear hbw
    generalize l[k]=p at *
    obtain ⟨⟨y1,y2⟩,y3⟩:=p
    cases he:eqRl ⟨y1,y2⟩ ⟨h1,h2⟩ with
    | true =>
     have e1:=hD.1 he
     by_cases he3:y3=x
     ·have R:=Lib.hid (HSk.out e1 he3)
      have d3:(y3.toList == x.toList)=true:=by rw [beq_str];simp [he3]
      clear hD e1
      go_wp2
      go_ret
      exact ⟨ret_b R.out.symm,HBW.out.alloc HBW.out.size _⟩
     ·have HN2:=Lib.hid (HN.out (fun h=>he3 h.2))
      have d3:(y3.toList == x.toList)=false:=by rw [beq_str];simp [he3]
      clear hD e1
      go_wp2
      exact ⟨⟨k+1,by omega,by go_num,HBW.out.alloc HBW.out.size _,HBK.out.alloc _,HN2⟩,by simp [intOf];omega⟩
    | false =>
     have HN2:=Lib.hid (HN.out (fun h=>by rw [hD.2 h.1] at he;cases he))
     clear hD
     go_wp2
     exact ⟨⟨k+1,by omega,by go_num,HBW.out.alloc HBW.out.size _,HBK.out.alloc _,HN2⟩,by simp [intOf];omega⟩
   ·have R:=Lib.hid (HE.out k hlt HT.out)
    clear hbw
    go_wp2
    go_ret
    exact ⟨ret_b R.out.symm,HBW.out⟩
 ·obtain ⟨a1,c1,rfl⟩:=ha.form
  obtain rfl:l=[]:=List.eq_nil_of_length_eq_zero (by omega)
  clear ha h0 hmax
  obtain ⟨h1,h2⟩:=r
  go_enter Tryz.func45,Tryz.ntmps45
  go_wp2
  go_loopw [11] (fun i wr=>i=.int .i64 0∧Below w.heap.size w wr) (fun _ _=>0)
  case atStart=>exact ⟨rfl,(Below.refl _ _).alloc (Nat.le_refl _) _⟩
  case round =>
   obtain ⟨rfl,hbw⟩:=hrel
   go_wp2
   go_ret
   exact ⟨rfl,hbw⟩
def membersP (l:List Pr) (r:Rl):List ByteArray:=newB ((l.filter (fun p=>eqRl p.1 r)).map (fun p=>p.2))
theorem membersP_mem {l:List Pr} {r:Rl} {x:ByteArray}:x∈membersP l r↔(r,x)∈l:=by
 unfold membersP
 rw [new_mem,List.mem_map]
 constructor
 ·rintro ⟨⟨a,b⟩,h,rfl⟩
  have:=(List.mem_filter.1 h).2
  rw [show a=r from of_decide_eq_true this] at h
  exact (List.mem_filter.1 h).1
 ·intro h
  exact ⟨_,List.mem_filter.2 ⟨h,decide_eq_true rfl⟩,rfl⟩
theorem membersP_asc (l:List Pr) (r:Rl):AscB (membersP l r):=new_asc _
theorem membersP_snoc {l:List Pr} {r:Rl} {k:Nat} (hk:k < l.length):membersP (l.take (k+1)) r=if eqRl l[k].1 r=true then insSB (membersP (l.take k) r) l[k].2 else membersP (l.take k) r:=by
 unfold membersP
 rw [List.take_succ_eq_append_getElem hk,List.filter_append,List.map_append]
 by_cases h:eqRl l[k].1 r=true
 ·rw [if_pos h,List.filter_cons,if_pos h]
  simp only [List.filter_nil,List.map_cons,List.map_nil]
  exact new_snoc _ _
 ·rw [if_neg h,List.filter_cons,if_neg h]
  simp
theorem membersP_len (l:List Pr) (r:Rl):(membersP l r).length≤l.length:=by
 unfold membersP
 have h1:=new_len ((l.filter (fun p=>eqRl p.1 r)).map (fun p=>p.2))
 have h2:=List.length_filter_le (fun p:Pr=>eqRl p.1 r) l
 rw [List.length_map] at h1
 omega
def insideB (a b:List ByteArray):Bool:=a.all (hasB b)
end
section
open Go.RowKit Go.Shelf

set_option maxRecDepth 100000 in
set_option maxHeartbeats 2000000 in
theorem str_Index (va:Value) (l:List ByteArray) (s:ByteArray) (w:World) (ha:SlA w 1 va l.length (strs l)) :
  Calls Tryz.prog 167 #[va,.string s] w fun e w'=>(∃ i:Int,e=.returned (.int .i64 i)∧hasB l s=decide (0≤i))∧w'=w:=by
 have HA:=Lib.hid ha
 have hmax:=ha.max
 obtain ⟨ao,cap,hva⟩:=ha.form
 subst hva
 clear ha
 have HY:=Lib.hid (fun k (hk:k < l.length) (e:l[k]=s)=>hasB_yes hk e)
 have HN:=Lib.hid (fun k (hk:¬ k < l.length) h=>hasB_end (l:=l) (s:=s) (k:=k) hk h)
 generalize hasB l s=res at HY HN ⊢
 go_enter Tryz.func167,Tryz.ntmps167
 go_wp2
 go_loopw [8] (fun i wr => ∃ k:Nat,k≤l.length∧i=.int .i64 k∧Hid (∀ j (hj:j < l.length),j < k→¬ l[j]=s)∧wr=w) (fun i _=>l.length - (intOf i).toNat)
 case atStart=>exact ⟨0,by omega,rfl,Lib.hid (fun _ _ h=>absurd h (by omega)),rfl⟩
 case round =>
  obtain ⟨k,hk,rfl,HJ,rfl⟩:=hrel
  by_cases hlt:k < l.length
  ·obtain ⟨b1,o1,c1,he1,hc1,hm1,hb1,hx1⟩:=HA.out.pos (by omega)
   simp only [Value.slice.injEq,true_and] at he1
   obtain ⟨rfl,rfl⟩:=he1
   have p0:=hx1 k _ (strs_get hlt)
   have YES:=Lib.hid (HY.out k hlt)
   have HJ2:Hid (¬ l[k]=s→∀ j (hj:j < l.length),j < k+1→¬ l[j]=s):=Lib.hid (fun hpk j hj hjk=>by
    by_cases h:j < k
    ·exact HJ.out j hj h
    ·obtain rfl:j=k:=by omega
     exact hpk)
   clear hx1
   generalize l[k]=x at *
   by_cases e:x=s
   ·have d:(s.toList == x.toList)=true:=by rw [beq_str,e];exact decide_eq_true rfl
    have d':(x.toList == s.toList)=true:=by rw [beq_str,e];exact decide_eq_true rfl
    have R:=Lib.hid (YES.out e)
    clear e
    go_wp2
    go_ret
    exact ⟨⟨(k:Int),rfl,by rw [R.out,decide_eq_true (Int.natCast_nonneg k)]⟩,rfl⟩
   ·have d:(s.toList == x.toList)=false:=by rw [beq_str];exact decide_eq_false (fun h=>e h.symm)
    have d':(x.toList == s.toList)=false:=by rw [beq_str];exact decide_eq_false e
    have HJ3:=Lib.hid (HJ2.out e)
    clear e
    go_wp2
    exact ⟨⟨k+1,by omega,by go_num,HJ3,by first | rfl | trivial⟩,by simp [intOf];omega⟩
  ·have R:=Lib.hid (HN.out k hlt HJ.out)
   go_wp2
   go_ret
   exact ⟨⟨-1,rfl,by rw [R.out];rfl⟩,rfl⟩
set_option maxHeartbeats 1000000 in
theorem str_Contains (va:Value) (l:List ByteArray) (s:ByteArray) (w:World) (ha:SlA w 1 va l.length (strs l)) :
  Calls Tryz.prog 89 #[va,.string s] w fun e w'=>e=.returned (.bool (hasB l s))∧w'=w:=by
 have I:=Lib.hid (str_Index va l s w ha)
 generalize hasB l s=res at I ⊢
 clear ha
 go_enter Tryz.func89,Tryz.ntmps89
 go_wp2_with fail
 refine I.out.mono ?_
 rintro e w1 ⟨⟨i,rfl,hi⟩,rfl⟩
 have HI:=Lib.hid hi
 clear hi
 go_wp2
 go_ret
 exact ⟨ret_b HI.out.symm,rfl⟩
end
section
open Go.RowKit Go.Shelf

end
section
open Go.RowKit Go.Shelf

end
section
open Go.RowKit Go.Shelf

set_option maxHeartbeats 400000 in
theorem ref3_IsRoleM (r:Rl) (w:World) (hs:r.le 9223372036854775807) :
  Calls Tryz.prog 77 #[rv r] w fun e w'=>e=.returned (.bool (isRole r))∧Below w.heap.size w w':=by
 obtain ⟨o,n⟩:=r
 obtain ⟨h1,h2⟩:=hs
 have H1:=Lib.hid (fun W=>ref1_IsPrin o W h1)
 have H2:=Lib.hid (fun W=>ref1_IsName n W h2)
 clear h1 h2
 have E:=Lib.hid (show isRole ⟨o,n⟩=(isP 65 90 (bl o) && isP 97 122 (bl n)) from rfl)
 cases hp:isP 65 90 (bl o)
 all_goals
  rw [hp] at E
  go_enter Tryz.func77,Tryz.ntmps77
  go_wp2_with (first | (go_at_call 162;refine (H1.out _).mono ?_;rintro e w' ⟨rfl,rfl⟩) | (go_at_call 163;refine (H2.out _).mono ?_;rintro e w' ⟨rfl,rfl⟩))
  go_ret
  exact ⟨ret_b (by rw [E.out];rfl),(Below.refl _ _).alloc (Nat.le_refl _) _⟩

end
section
open Go.RowKit Go.Shelf
def posSR:List Rl→Rl→Nat
 | [],_=>0
 | a :: r,x=>if cmpR a x < 0 then posSR r x+1 else 0
def insAtR (l:List Rl) (x:Rl) (k:Nat):List Rl:=l.take k++x :: l.drop k
def insSR (l:List Rl) (x:Rl):List Rl:=if hasR l x then l else insAtR l x (posSR l x)
def insAllR:List Rl→List Rl→List Rl
 | acc,[]=>acc
 | acc,x :: l=>insAllR (insSR acc x) l
theorem pos_leR:∀ (l:List Rl) (x:Rl),posSR l x≤l.length
 | [],_=>Nat.le_refl _
 | a :: r,x=>by unfold posSR;have:=pos_leR r x;split <;> simp <;> omega
theorem pos_ofR:∀ (l:List Rl) (x:Rl) (k:Nat),k≤l.length→(∀ j (hj:j < l.length),j < k→cmpR l[j] x < 0)→(∀ hk:k < l.length,¬ cmpR l[k] x < 0)→posSR l x=k
 | [],x,k,hk,_,_=>by simp at hk;subst hk;rfl
 | a :: r,x,0,_,_,h=>by
  have h':¬ cmpR a x < 0:=h (by simp)
  unfold posSR;rw [if_neg h']
 | a :: r,x,k+1,hk,h1,h2=>by
  have h':cmpR a x < 0:=h1 0 (by simp) (by omega)
  unfold posSR
  rw [if_pos h',pos_ofR r x k (by simpa using hk) (fun j hj hjk=>h1 (j+1) (by simp;omega) (by omega)) (fun hk'=>h2 (by simp;omega))]
theorem insS_lenR (l:List Rl) (x:Rl):(insSR l x).length≤l.length+1:=by
 unfold insSR insAtR;split
 ·omega
 ·simp [List.length_take,List.length_drop];have:=pos_leR l x;omega
theorem insAll_stepR (acc l:List Rl) (k:Nat) (hk:k < l.length):insAllR acc (l.drop k)=insAllR (insSR acc l[k]) (l.drop (k+1)):=by
 rw [List.drop_eq_getElem_cons hk];rfl
theorem insAll_endR (acc l:List Rl) (k:Nat) (hk:¬ k < l.length):insAllR acc (l.drop k)=acc:=by
 rw [List.drop_eq_nil_of_le (by omega)];rfl
theorem insS_hasR {l:List Rl} {x:Rl} (h:hasR l x=true):insSR l x=l:=if_pos h
theorem insS_notR {l:List Rl} {x:Rl} (h:hasR l x=false):insSR l x=insAtR l x (posSR l x):=if_neg (by rw [h];exact Bool.false_ne_true)

theorem flat_dropR (l:List Rl) (j:Nat) (hj:j≤l.length) (i:Nat):((l.drop j).flatMap Rl.cells)[i]? = (l.flatMap Rl.cells)[j * 2+i]? := by
 have h:=List.take_append_drop j l
 have e:(l.flatMap Rl.cells)=(l.take j).flatMap Rl.cells++(l.drop j).flatMap Rl.cells:=by rw [← List.flatMap_append,h]
 have hl:((l.take j).flatMap Rl.cells).length=j * 2:=by rw [flat_len _ 2 Rl.cells_len,List.length_take];congr 1;omega
 rw [e,List.getElem?_append_right (by omega),hl]
 congr 1;omega
theorem flat_takeR (l:List Rl) (j:Nat) (i:Nat) (u:Value) (h:((l.take j).flatMap Rl.cells)[i]? = some u):(l.flatMap Rl.cells)[i]? = some u:=by
 have e:(l.flatMap Rl.cells)=(l.take j).flatMap Rl.cells++(l.drop j).flatMap Rl.cells:=by rw [← List.flatMap_append,List.take_append_drop]
 rw [e]
 have hi:=(List.getElem?_eq_some_iff.1 h).1
 rw [List.getElem?_append_left hi];exact h
theorem take_len9R (l:List Rl) (j:Nat) (hj:j≤l.length):((l.take j).flatMap Rl.cells).length=j * 2:=by
 rw [flat_len _ 2 Rl.cells_len,List.length_take];congr 1;omega
theorem drop_len9R (l:List Rl) (j:Nat):((l.drop j).flatMap Rl.cells).length=(l.length - j) * 2:=by
 rw [flat_len _ 2 Rl.cells_len,List.length_drop]
theorem sl_appR {l:List Rl} {x:Rl} {j:Nat} (_:j≤l.length):(l.take j).flatMap Rl.cells++x.cells++(l.drop j).flatMap Rl.cells=(insAtR l x j).flatMap Rl.cells:=by
 unfold insAtR;rw [List.flatMap_append,List.flatMap_cons,List.append_assoc]
theorem insAt_lenR {l:List Rl} {x:Rl} {j:Nat} (hj:j≤l.length):(insAtR l x j).length=j+1+(l.length - j):=by
 unfold insAtR;rw [List.length_append,List.length_cons,List.length_take,List.length_drop];omega
theorem app_endR {l:List Rl} {x:Rl}:l.flatMap Rl.cells++x.cells=(insAtR l x l.length).flatMap Rl.cells:=by
 have h:=sl_appR (l:=l) (x:=x) (j:=l.length) (Nat.le_refl _)
 rw [List.take_of_length_le (Nat.le_refl _),List.drop_of_length_le (Nat.le_refl _)] at h
 rw [← h];simp
theorem insAt_endR {l:List Rl} {x:Rl}:(insAtR l x l.length).length=l.length+1:=by rw [insAt_lenR (Nat.le_refl _)];omega
abbrev Two (w:World) (b o:Nat) (s:Rl):Prop:=w.cell? ⟨b,o,none⟩=some (.string s.o)∧w.cell? ⟨b,o+1,none⟩=some (.string s.n)
theorem ref3_LessD (x y:Rl) (w:World):Calls Tryz.prog 164 #[rv x,rv y] w fun e w'=>e=.returned (.bool (decide (cmpR x y < 0)))∧Below w.heap.size w w':=ref3_Less x y w
theorem Two.below {w w':World} {b o:Nat} {s:Rl} (h:Two w b o s) (hb:b < w.heap.size) (hw:Below w.heap.size w w'):Two w' b o s:=by
 have k:∀ i,w'.cell? ⟨b,i,none⟩=w.cell? ⟨b,i,none⟩:=fun i=>hw.cell (p:=⟨b,i,none⟩) hb
 obtain ⟨h0,h1⟩:=h
 exact ⟨(k _).trans h0,(k _).trans h1⟩
set_option maxRecDepth 100000 in
set_option maxHeartbeats 8000000 in
theorem ref5_Sort (va:Value) (l:List Rl) (w:World) (ha:SlA w 2 va l.length (l.flatMap Rl.cells)) (hl:l.length≤1000) :
  Calls Tryz.prog 80 #[va] w fun e w' => ∃ v,e=.returned v∧Sl w' 2 v (insAllR [] l).length ((insAllR [] l).flatMap Rl.cells)∧Below w.heap.size w w':=by
 by_cases h0:0 < l.length
 ·obtain ⟨b1,o1,c1,rfl,hc1,hm1,hb1,hx1⟩:=ha.pos h0
  have HX1:=Lib.hid hx1
  clear ha hx1
  go_enter Tryz.func80,Tryz.ntmps80
  go_wp2
  go_loopw [3,10] (fun vo i wr => ∃ (k:Nat) (acc:List Rl),k≤l.length∧acc.length≤k∧i=.int .i64 k∧Below w.heap.size w wr∧Sl wr 2 vo acc.length (acc.flatMap Rl.cells)∧Hid (insAllR [] l=insAllR acc (l.drop k))) (fun _ i _=>l.length - (intOf i).toNat)
  case atStart=>exact ⟨0,[],by omega,by simp,rfl,Below.refl _ _,Sl.nil _ _,Lib.hid (by simp)⟩
  case round =>
   obtain ⟨k,acc,hk,hak,rfl,hbw,hso,HI⟩:=hrel
   have HBW:=Lib.hid hbw
   have HSO:=Lib.hid hso
   have hz:=hbw.size
   by_cases hlt:k < l.length
   ·obtain ⟨p0,p1⟩:=rl_cell (w:=wr) (fun j u hu=>(hbw.cell (p:=⟨b1,o1+j,none⟩) hb1).trans (HX1.out j u hu)) k hlt
    have hbr:b1 < wr.heap.size:=Nat.lt_of_lt_of_le hb1 hz
    have HST:=Lib.hid (HI.out.trans (insAll_stepR acc l k hlt))
    have hx:l[k]=⟨l[k].o,l[k].n⟩:=rfl
    generalize l[k].o=x1 at *
    generalize l[k].n=x2 at *
    rw [hx] at HST
    clear hx hbw hso HI
    obtain ⟨ao,co,rfl⟩:=HSO.out.form
    go_wp2_with fail
    have HX:=Lib.hid (Blk.new wr #[.string x1,.string x2] 28)
    have HS2:=Lib.hid (HSO.out.below ((Below.refl wr.heap.size wr).alloc (Nat.le_refl _) (.cells #[.string x1,.string x2] 28)))
    refine (ref5_Has _ acc ⟨x1,x2⟩ _ HS2.out.a).mono ?_
    rintro e w2 ⟨rfl,hb2⟩
    have HX2:=Lib.hid (HX.out.below hb2)
    have HS3:=Lib.hid (HS2.out.below hb2)
    have HB2:=Lib.hid ((HBW.out.alloc HBW.out.size _).trans (hb2.mono (Nat.le_trans HBW.out.size (by simp))))
    have hz2:=HB2.out.size
    clear hb2 HX HS2 HSO p0 p1
    cases hh:hasR acc ⟨x1,x2⟩ with
    | true =>
     have HE:=Lib.hid (HST.out.trans (by rw [insS_hasR hh]))
     clear hh
     go_wp2_with fail
     exact ⟨⟨k+1,acc,by omega,by omega,by go_num,HB2.out,HS3.out,HE⟩,by simp [intOf];omega⟩
    | false =>
     have HE:=Lib.hid (HST.out.trans (by rw [insS_notR hh]))
     clear hh HST
     obtain ⟨g,hg⟩:∃ g,wr.heap.size=g:=⟨_,rfl⟩
     rw [hg] at HX2 ⊢
     clear hg hbr HBW hz
     go_wp2_with fail
     go_loopw [6] (fun i wr => ∃ j:Nat,j≤acc.length∧i=.int .i64 j∧Below w2.heap.size w2 wr∧Hid (∀ m (hm:m < acc.length),m < j→cmpR acc[m] ⟨x1,x2⟩ < 0)) (fun i _=>acc.length - (intOf i).toNat)
     case atStart=>exact ⟨0,by omega,rfl,Below.refl _ _,Lib.hid (fun _ _ h=>absurd h (by omega))⟩
     case round =>
      obtain ⟨j,hj,rfl,hbj,HJ⟩:=hrel
      have HBJ:=Lib.hid hbj
      by_cases hjl:j < acc.length
      ·obtain ⟨b2,o2,c2,he2,hc2,hm2,hb2,hx2⟩:=HS3.out.pos (by omega)
       simp only [Value.slice.injEq,true_and] at he2
       obtain ⟨rfl,rfl⟩:=he2
       obtain ⟨q0,q1⟩:=rl_cell (w:=wr) (fun m u hu=>(hbj.cell (p:=⟨b2,o2+m,none⟩) hb2).trans (hx2 m u hu)) j hjl
       have hbj2:b2 < wr.heap.size:=Nat.lt_of_lt_of_le hb2 hbj.size
       have HX3:=HX2.out.below hbj
       have cx:=HX3.1
       have HBF:=fun W=>ref3_LessD acc[j] ⟨x1,x2⟩ W
       have d:decide ((j:Int) < (acc.length:Int))=true:=by (rw [decide_eq_true_iff];omega)
       have HX4:Blk wr.drew g #[.string x1,.string x2]:=HX3
       have HQ4:Two wr.drew b2 (o2+j * 2) acc[j]:=⟨q0,q1⟩
       have HB4:Below w2.heap.size w2 wr.drew:=below_drew hbj
       clear hx2 hbj
       cases hlt':decide (cmpR acc[j] ⟨x1,x2⟩ < 0) with
       | true =>
        have HN:Hid (∀ m (hm:m < acc.length),m < j+1→cmpR acc[m] ⟨x1,x2⟩ < 0):=Lib.hid (fun m hm hmj=>by
         by_cases hmj':m < j
         ·exact HJ.out m hm hmj'
         ·obtain rfl:m=j:=by omega
          exact of_decide_eq_true hlt')
        rw [hlt'] at HBF
        clear hlt'
        go_wp2_with fail
        go_region_held3 (fun W=>(∀ o,W.cell? ⟨g,o,none⟩=(#[.string x1,.string x2]:Array Value)[o]?)∧Two W b2 (o2+j * 2) acc[j])
         (first | exact ⟨HX4.1,HQ4⟩ | go_keep)
         ((go_at_call 164;refine (HBF _).mono ?_;rintro e wq ⟨rfl,hbq⟩;have HQ4:=HQ4.below hbj2 hbq;have HX4:=HX4.below hbq;have HB4:=HB4.trans (hbq.mono HB4.size)))
        go_wp2
        exact ⟨⟨j+1,by omega,by go_num,HB4,HN⟩,by simp [intOf];omega⟩
       | false =>
        have HLT:=Lib.hid hlt'
        rw [hlt'] at HBF
        clear hlt'
        go_wp2_with fail
        go_region_held3 (fun W=>(∀ o,W.cell? ⟨g,o,none⟩=(#[.string x1,.string x2]:Array Value)[o]?)∧Two W b2 (o2+j * 2) acc[j])
         (first | exact ⟨HX4.1,HQ4⟩ | go_keep)
         ((go_at_call 164;refine (HBF _).mono ?_;rintro e wq ⟨rfl,hbq⟩;have HQ4:=HQ4.below hbj2 hbq;have HX4:=HX4.below hbq;have HB4:=HB4.trans (hbq.mono HB4.size)))
        have hsb:=(HS3.out.below HB4).pos (by omega)
        obtain ⟨b3,o3,c3,he3,hc3,hm3,hb3,hx3⟩:=hsb
        simp only [Value.slice.injEq,Option.some.injEq,Addr.mk.injEq,true_and,and_true] at he3
        obtain ⟨⟨rfl,rfl⟩,rfl⟩:=he3
        have HSB:=Lib.hid hx3
        clear hx3
        go_wp2_with (at_builtin;refine halt_ ?_)
        unfold Halt_
        refine app_grow Tryz.underlying23 rl_info' rfl (by decide) (by decide) rfl _ _ rfl (ao:=some ⟨wq.heap.size,0,none⟩) (n:=0) (cap:=0) (olds:=[]) rfl (by simp) (by simp) (by simp) (b:=b2) (off:=o2+j * 2) (m:=acc.length - j) (c:=co - j) (news:=(acc.drop j).flatMap Rl.cells) rfl ?_ ?_ (rls_one _) (by omega) (by omega) ?_
        ·rw [flat_len _ 2 Rl.cells_len,List.length_drop]
        ·intro i u hu
         rw [flat_dropR acc j hj] at hu
         have:=HSB.out _ _ hu
         rw [← Nat.add_assoc] at this
         exact (World.cell?_alloc_past _ _ _ hb3).trans this
        intro v5 w5 hown5 hb5
        have hwq:wq.heap.size < (wq.alloc (.cells #[] 28)).heap.size:=by simp
        have HX5:Blk w5 g #[.string x1,.string x2]:=(HX4.alloc _).below hb5
        have hh5:b2 < w5.heap.size:=Nat.lt_of_lt_of_le hb3 (Nat.le_trans (Nat.le_of_lt hwq) hb5.size)
        have HS5:∀ i u,(acc.flatMap Rl.cells)[i]? = some u→w5.cell? ⟨b2,o2+i,none⟩=some u:=fun i u hu=>(hb5.cell (p:=⟨b2,o2+i,none⟩) (Nat.lt_trans hb3 hwq)).trans ((World.cell?_alloc_past _ _ _ hb3).trans (HSB.out i u hu))
        have HB5:Below w2.heap.size w2 w5:=(HB4.alloc HB4.size _).trans (hb5.mono (Nat.le_trans HB4.size (Nat.le_of_lt hwq)))
        simp only [Nat.zero_add,List.nil_append] at hown5
        obtain ⟨g5,c5,rfl,hg5a,hg5b⟩:=hown5.form (show 0 < acc.length - j by omega)
        have HO5:=Lib.hid hown5
        have HB5':=Lib.hid HB5
        obtain ⟨inf,hi,hz0,hz1,hz2⟩:=info_parts rl_info'
        have HINF:=Lib.hid hi
        have HX6:Blk w5.drew g #[.string x1,.string x2]:=HX5
        have HSX:=Lib.hid (fun i u (hu:(acc.flatMap Rl.cells)[i]? = some u)=>show w5.drew.cell? ⟨b2,o2+i,none⟩=some u from HS5 i u hu)
        have HOD:=Lib.hid (show w5.drew.ownsRow _ _ 2 _ _ _ from hown5)
        have c5x:=HX5.1
        have hgb:g < (w5.drew.alloc (.cells #[.string x1,.string x2] 28)).heap.size:=Nat.lt_of_lt_of_le HX6.2.2 (((Below.refl _ w5.drew).alloc (Nat.le_refl _) _).size)
        have hi1:(0:Int)≤(j:Int):=by omega
        have hi2:(j:Int)≤(acc.length:Int):=by omega
        have hi3:(j:Int)≤(co:Int):=by omega
        clear hown5 hb5 HS5 HB5 HX5 HX4 HB4 HQ4 hi HBF hwq hb3 hbq cx HX3 q0 q1 d
        go_wp2_with fail
        go_region_held3 (fun W => ∀ o,W.cell? ⟨g,o,none⟩=(#[.string x1,.string x2]:Array Value)[o]?)
         (first | exact HX6.1 | exact (HX6.alloc _).1 | exact HX7.1 | exact HX9.1 | go_keep)
         (first
          | (refine step_append_grows rfl _ _ 23 rfl 28 inf _ 2 32 Tryz.underlying23 HINF.out hz0 hz1 hz2 rfl (Nat.le_of_ble_eq_true rfl) (some ⟨b2,o2,none⟩) j j ((acc.take j).flatMap Rl.cells) rfl ?_ (take_len9R acc j hj) ?_ ⟨w5.heap.size,0,none⟩ 1 1 (Rl.cells ⟨x1,x2⟩) rfl rfl ?_ (rl1 x1 x2) (Nat.lt_succ_self _) ?_ ?_ ?_;(intro h;cases h);(intro b hb i u hu;cases hb;rw [addr_add];exact (World.cell?_alloc_past _ _ _ hh5).trans (HSX.out i u (flat_takeR acc j i u hu)));exact cells_new _ _ _ _ rfl;(simp only [maxLen];omega);omega;intro v7 w7 hown7 hg7;have hb7:=below_of_none hg7;have HX7:=(HX6.alloc _).below hb7;have HO7:=own_below (own_below HOD.out ((Below.refl _ _).alloc (Nat.le_refl _) _)) hb7)
          | (refine step_append_lies _ rfl _ _ 23 rfl _ 28 inf _ 2 32 Tryz.underlying23 HINF.out hz0 hz1 hz2 rfl (Nat.le_of_ble_eq_true rfl) v7 (j+1) _ rfl hown7 ⟨g5,0,none⟩ (acc.length - j) c5 ((acc.drop j).flatMap Rl.cells) rfl (drop_len9R acc j) (HO7.cells (g:=g5) rfl) (rls_one _) ?_ ?_ ?_ hb7.size _ rfl ?_;omega;(simp only [maxLen];omega);omega;intro g9 c9 w9 hown9 hg9 hor9 hlt9;have HX9:=HX7.grown hg9 (own_gt_ne hown7 hgb)))
        have HBw5:=HB2.out.trans (HB5'.out.mono HB2.out.size)
        have HBw6:=(below_drew HBw5).alloc (B:=w.heap.size) HBw5.size (.cells #[.string x1,.string x2] 28)
        have HBw7:=HBw6.trans (hb7.mono HBw6.size)
        have HB9:=Lib.hid (below_own HBw7 hown7 hg9 HBw7.size HBw6.size)
        have HSL9:=Lib.hid (Sl.of_own hown9)
        have HPS:=Lib.hid (pos_ofR acc ⟨x1,x2⟩ j hj HJ.out (fun _=>of_decide_eq_false HLT.out))
        clear hown9 hg9 hown7 hg7 hb7 HX9 HX7 HO7 HBw5 HBw6 HBw7
        go_wp2
        exact ⟨⟨k+1,insAtR acc ⟨x1,x2⟩ j,by omega,by rw [insAt_lenR hj];omega,by go_num,HB9.out,by rw [insAt_lenR hj,← sl_appR hj];exact HSL9.out,Lib.hid (by rw [HE.out,HPS.out])⟩,by simp [intOf];omega⟩
      ·obtain rfl:j=acc.length:=by omega
       have HPS:=Lib.hid (pos_ofR acc ⟨x1,x2⟩ acc.length (Nat.le_refl _) HJ.out (fun h=>absurd h hjl))
       obtain ⟨inf,hi,hz0,hz1,hz2'⟩:=info_parts rl_info'
       have HINF:=Lib.hid hi
       have HX3:=HX2.out.below hbj
       have cx:=HX3.1
       have d:decide ((acc.length:Int) < (acc.length:Int))=false:=by (rw [decide_eq_false_iff_not];omega)
       clear hi hjl hj
       rcases HS3.out.2.2 with ⟨hv,hn0⟩ | ⟨b2,o2,c2,hv,hc2,hm2,hb2,hx2⟩
       ·skip
        have hacc:acc=[]:=List.eq_nil_of_length_eq_zero hn0
        simp only [Value.slice.injEq] at hv
        obtain ⟨rfl,-,rfl⟩:=hv
        simp only [hn0]
        clear d
        clear hbj
        go_wp2_with fail
        go_big_quiet (fail)
        go_wp2_with (at_builtin;refine halt_ ?_)
        unfold Halt_
        refine app_zero _ rfl _ _ 23 rfl 28 inf Tryz.underlying23 HINF.out (some ⟨wr.heap.size,0,none⟩) 0 0 (Nat.le_refl _) rfl _ _ rfl ?_
        obtain ⟨w5,hw5⟩:∃ w5,w5=(wr.drewN nq).alloc (.cells #[] 28):=⟨_,rfl⟩
        have hb5:Below wr.heap.size wr w5:=by rw [hw5];exact (below_drewN (Below.refl _ _) _).alloc (Nat.le_refl _) _
        have hh0:wr.heap.size≤w5.heap.size:=hb5.size
        rw [← hw5]
        have HX5:Blk w5 g #[.string x1,.string x2]:=HX3.below hb5
        have HB5':=Lib.hid (HBJ.out.trans (hb5.mono HBJ.out.size))
        have HX6:Blk w5.drew g #[.string x1,.string x2]:=HX5
        have c5x:=HX5.1
        have hgb:g < (w5.drew.alloc (.cells #[.string x1,.string x2] 28)).heap.size:=Nat.lt_of_lt_of_le HX6.2.2 (((Below.refl _ w5.drew).alloc (Nat.le_refl _) _).size)
        clear hw5 hb5 HX5 HX3 cx
        go_wp2_with fail
        go_region_held3 (fun W => ∀ o,W.cell? ⟨g,o,none⟩=(#[.string x1,.string x2]:Array Value)[o]?)
         (first | exact HX6.1 | exact (HX6.alloc _).1 | exact HX7.1 | go_keep)
         (first
          | (refine step_append_grows rfl _ _ 23 rfl 28 inf _ 2 32 Tryz.underlying23 HINF.out hz0 hz1 hz2' rfl (Nat.le_of_ble_eq_true rfl) none 0 0 [] rfl ?_ rfl ?_ ⟨w5.heap.size,0,none⟩ 1 1 (Rl.cells ⟨x1,x2⟩) rfl rfl ?_ (rl1 x1 x2) (Nat.lt_succ_self _) ?_ ?_ ?_;(intro _;exact ⟨rfl,rfl⟩);(intro b hb;cases hb);exact cells_new _ _ _ _ rfl;(simp only [maxLen];omega);omega;intro v7 w7 hown7 hg7;obtain ⟨a7,c7,rfl,hc7⟩:=own_form2 hown7;have hb7:=below_of_none hg7;have HX7:=(HX6.alloc _).below hb7)
          | (refine step_zero _ rfl _ _ 23 rfl 28 inf Tryz.underlying23 HINF.out _ _ c7 hc7 rfl _ _ rfl ?_))
        have HBw5:=HB2.out.trans (HB5'.out.mono HB2.out.size)
        have HBw6:=(below_drew HBw5).alloc (B:=w.heap.size) HBw5.size (.cells #[.string x1,.string x2] 28)
        have HB9:=Lib.hid (HBw6.trans (hb7.mono HBw6.size))
        have HSL9:=Lib.hid (Sl.of_own hown7)
        clear hg7 hb7 hown7 HX7 HBw5 HBw6
        go_wp2
        exact ⟨⟨k+1,insAtR acc ⟨x1,x2⟩ acc.length,by omega,by rw [insAt_endR];omega,by go_num,HB9.out,by rw [insAt_endR,← app_endR,hacc];exact HSL9.out,Lib.hid (by rw [HE.out,HPS.out])⟩,by simp [intOf];omega⟩
       ·simp only [Value.slice.injEq,true_and] at hv
        obtain ⟨rfl,rfl⟩:=hv
        by_cases hco:co=acc.length
        ·skip
         subst hco
         clear hbj
         go_wp2_with fail
         go_big_quiet (fail)
         go_wp2_with (at_builtin;refine halt_ ?_)
         unfold Halt_
         refine app_zero _ rfl _ _ 23 rfl 28 inf Tryz.underlying23 HINF.out (some ⟨wr.heap.size,0,none⟩) 0 0 (Nat.le_refl _) rfl _ _ rfl ?_
         obtain ⟨w5,hw5⟩:∃ w5,w5=(wr.drewN nq).alloc (.cells #[] 28):=⟨_,rfl⟩
         have hb5:Below wr.heap.size wr w5:=by rw [hw5];exact (below_drewN (Below.refl _ _) _).alloc (Nat.le_refl _) _
         have hh0:wr.heap.size≤w5.heap.size:=hb5.size
         rw [← hw5]
         have HX5:Blk w5 g #[.string x1,.string x2]:=HX3.below hb5
         have HB5':=Lib.hid (HBJ.out.trans (hb5.mono HBJ.out.size))
         have hh5:b2 < w5.heap.size:=Nat.lt_of_lt_of_le hb2 HB5'.out.size
         have HSX:=Lib.hid (fun i u (hu:(acc.flatMap Rl.cells)[i]? = some u)=>show w5.drew.cell? ⟨b2,o2+i,none⟩=some u from (HB5'.out.cell (p:=⟨b2,o2+i,none⟩) hb2).trans (hx2 i u hu))
         have hi1:(0:Int)≤(acc.length:Int):=by omega
         have hi3:(acc.length:Int)≤(acc.length:Int):=by omega
         have HX6:Blk w5.drew g #[.string x1,.string x2]:=HX5
         have c5x:=HX5.1
         have hgb:g < (w5.drew.alloc (.cells #[.string x1,.string x2] 28)).heap.size:=Nat.lt_of_lt_of_le HX6.2.2 (((Below.refl _ w5.drew).alloc (Nat.le_refl _) _).size)
         clear hw5 hb5 HX5 HX3 cx hx2
         go_wp2_with fail
         go_region_held3 (fun W => ∀ o,W.cell? ⟨g,o,none⟩=(#[.string x1,.string x2]:Array Value)[o]?)
          (first | exact HX6.1 | exact (HX6.alloc _).1 | exact HX7.1 | go_keep)
          (first
           | (refine step_append_grows rfl _ _ 23 rfl 28 inf _ 2 32 Tryz.underlying23 HINF.out hz0 hz1 hz2' rfl (Nat.le_of_ble_eq_true rfl) (some ⟨b2,o2,none⟩) acc.length acc.length (acc.flatMap Rl.cells) rfl ?_ (flat_len _ 2 Rl.cells_len acc) ?_ ⟨w5.heap.size,0,none⟩ 1 1 (Rl.cells ⟨x1,x2⟩) rfl rfl ?_ (rl1 x1 x2) (Nat.lt_succ_self _) ?_ ?_ ?_;(intro h;cases h);(intro b hb i u hu;cases hb;rw [addr_add];exact (World.cell?_alloc_past _ _ _ hh5).trans (HSX.out i u hu));exact cells_new _ _ _ _ rfl;(simp only [maxLen];omega);omega;intro v7 w7 hown7 hg7;obtain ⟨a7,c7,rfl,hc7⟩:=own_form2 hown7;have hb7:=below_of_none hg7;have HX7:=(HX6.alloc _).below hb7)
           | (refine step_zero _ rfl _ _ 23 rfl 28 inf Tryz.underlying23 HINF.out _ _ c7 hc7 rfl _ _ rfl ?_))
         have HBw5:=HB2.out.trans (HB5'.out.mono HB2.out.size)
         have HBw6:=(below_drew HBw5).alloc (B:=w.heap.size) HBw5.size (.cells #[.string x1,.string x2] 28)
         have HB9:=Lib.hid (HBw6.trans (hb7.mono HBw6.size))
         have HSL9:=Lib.hid (Sl.of_own hown7)
         clear hg7 hb7 hown7 HX7 HBw5 HBw6
         go_wp2
         exact ⟨⟨k+1,insAtR acc ⟨x1,x2⟩ acc.length,by omega,by rw [insAt_endR];omega,by go_num,HB9.out,by rw [insAt_endR,← app_endR];exact HSL9.out,Lib.hid (by rw [HE.out,HPS.out])⟩,by simp [intOf];omega⟩
        ·skip
         have hco2:acc.length < co:=by omega
         clear hbj
         go_wp2_with fail
         go_big_quiet (fail)
         go_wp2_with (at_builtin;refine halt_ ?_)
         unfold Halt_
         refine app_zero _ rfl _ _ 23 rfl 28 inf Tryz.underlying23 HINF.out (some ⟨wr.heap.size,0,none⟩) 0 0 (Nat.le_refl _) rfl _ _ rfl ?_
         obtain ⟨w5,hw5⟩:∃ w5,w5=(wr.drewN nq).alloc (.cells #[] 28):=⟨_,rfl⟩
         have hb5:Below wr.heap.size wr w5:=by rw [hw5];exact (below_drewN (Below.refl _ _) _).alloc (Nat.le_refl _) _
         have hh0:wr.heap.size≤w5.heap.size:=hb5.size
         rw [← hw5]
         have HX5:Blk w5 g #[.string x1,.string x2]:=HX3.below hb5
         have HB5':=Lib.hid (HBJ.out.trans (hb5.mono HBJ.out.size))
         have hh5:b2 < w5.heap.size:=Nat.lt_of_lt_of_le hb2 HB5'.out.size
         have HSX:=Lib.hid (fun i u (hu:(acc.flatMap Rl.cells)[i]? = some u)=>show w5.drew.cell? ⟨b2,o2+i,none⟩=some u from (HB5'.out.cell (p:=⟨b2,o2+i,none⟩) hb2).trans (hx2 i u hu))
         have hi1:(0:Int)≤(acc.length:Int):=by omega
         have hi3:(acc.length:Int)≤(co:Int):=by omega
         have HX6:Blk w5.drew g #[.string x1,.string x2]:=HX5
         have c5x:=HX5.1
         have hgb:g < (w5.drew.alloc (.cells #[.string x1,.string x2] 28)).heap.size:=Nat.lt_of_lt_of_le HX6.2.2 (((Below.refl _ w5.drew).alloc (Nat.le_refl _) _).size)
         clear hw5 hb5 HX5 HX3 cx hx2
         go_wp2_with fail
         go_region_held3 (fun W => ∀ o,W.cell? ⟨g,o,none⟩=(#[.string x1,.string x2]:Array Value)[o]?)
          (first | exact HX6.1 | exact (HX6.alloc _).1 | exact HX7.1 | go_keep)
          (first
           | (refine step_append_grows rfl _ _ 23 rfl 28 inf _ 2 32 Tryz.underlying23 HINF.out hz0 hz1 hz2' rfl (Nat.le_of_ble_eq_true rfl) (some ⟨b2,o2,none⟩) acc.length acc.length (acc.flatMap Rl.cells) rfl ?_ (flat_len _ 2 Rl.cells_len acc) ?_ ⟨w5.heap.size,0,none⟩ 1 1 (Rl.cells ⟨x1,x2⟩) rfl rfl ?_ (rl1 x1 x2) (Nat.lt_succ_self _) ?_ ?_ ?_;(intro h;cases h);(intro b hb i u hu;cases hb;rw [addr_add];exact (World.cell?_alloc_past _ _ _ hh5).trans (HSX.out i u hu));exact cells_new _ _ _ _ rfl;(simp only [maxLen];omega);omega;intro v7 w7 hown7 hg7;obtain ⟨a7,c7,rfl,hc7⟩:=own_form2 hown7;have hb7:=below_of_none hg7;have HX7:=(HX6.alloc _).below hb7)
           | (refine step_zero _ rfl _ _ 23 rfl 28 inf Tryz.underlying23 HINF.out _ _ c7 hc7 rfl _ _ rfl ?_))
         have HBw5:=HB2.out.trans (HB5'.out.mono HB2.out.size)
         have HBw6:=(below_drew HBw5).alloc (B:=w.heap.size) HBw5.size (.cells #[.string x1,.string x2] 28)
         have HB9:=Lib.hid (HBw6.trans (hb7.mono HBw6.size))
         have HSL9:=Lib.hid (Sl.of_own hown7)
         clear hg7 hb7 hown7 HX7 HBw5 HBw6
         go_wp2
         exact ⟨⟨k+1,insAtR acc ⟨x1,x2⟩ acc.length,by omega,by rw [insAt_endR];omega,by go_num,HB9.out,by rw [insAt_endR,← app_endR];exact HSL9.out,Lib.hid (by rw [HE.out,HPS.out])⟩,by simp [intOf];omega⟩
   ·have R:=Lib.hid (HI.out.trans (insAll_endR acc l k hlt))
    obtain ⟨ao,co,rfl⟩:=hso.form
    clear hbw hso
    go_wp2
    go_ret
    exact ⟨_,rfl,by rw [R.out];exact HSO.out,HBW.out⟩
 ·obtain ⟨a1,c1,rfl⟩:=ha.form
  obtain rfl:l=[]:=List.eq_nil_of_length_eq_zero (by omega)
  clear ha h0 hl
  go_enter Tryz.func80,Tryz.ntmps80
  go_wp2
  go_loopw [3,10] (fun vo i wr=>vo=.slice none 0 0∧i=.int .i64 0∧wr=w) (fun _ _ _=>0)
  case atStart=>exact ⟨rfl,rfl,rfl⟩
  case round =>
   obtain ⟨rfl,rfl,rfl⟩:=hrel
   go_wp2
   go_ret
   exact ⟨_,rfl,Sl.nil _ _,Below.refl _ _⟩

end
end Go.Proofs.YtilgbodgmkmjjaaGreatDoor
