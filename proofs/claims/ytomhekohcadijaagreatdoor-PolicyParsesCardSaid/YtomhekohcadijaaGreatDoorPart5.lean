/- Parts: RefSort -/
import Derived.Test.YtomhekohcadijaaGreatDoorPart4
import Derived.Test.YtomhekohcadijaaGreatDoorPart1
import Derived.Deep.RegionLawGrows
import Derived.Deep.AppendLies
import Derived.Deep.RegionHeld3
import Derived.Deep.DeepCutAuto
namespace Go.Proofs.YtomhekohcadijaaGreatDoor
section
open Go.RowKit Go.Shelf

def posS:List St→St→Nat
 | [],_=>0
 | a :: r,x=>if cmpSt a x < 0 then posS r x+1 else 0
def insAt (l:List St) (x:St) (k:Nat):List St:=l.take k++x :: l.drop k
def insS (l:List St) (x:St):List St:=if hasS l x then l else insAt l x (posS l x)
def insAll:List St→List St→List St
 | acc,[]=>acc
 | acc,x :: l=>insAll (insS acc x) l
theorem pos_le:∀ (l:List St) (x:St),posS l x≤l.length
 | [],_=>Nat.le_refl _
 | a :: r,x=>by unfold posS;have:=pos_le r x;split <;> simp <;> omega
theorem pos_of:∀ (l:List St) (x:St) (k:Nat),k≤l.length→(∀ j (hj:j < l.length),j < k→cmpSt l[j] x < 0)→(∀ hk:k < l.length,¬ cmpSt l[k] x < 0)→posS l x=k
 | [],x,k,hk,_,_=>by simp at hk;subst hk;rfl
 | a :: r,x,0,_,_,h=>by
  have h':¬ cmpSt a x < 0:=h (by simp)
  unfold posS;rw [if_neg h']
 | a :: r,x,k+1,hk,h1,h2=>by
  have h':cmpSt a x < 0:=h1 0 (by simp) (by omega)
  unfold posS
  rw [if_pos h',pos_of r x k (by simpa using hk) (fun j hj hjk=>h1 (j+1) (by simp;omega) (by omega)) (fun hk'=>h2 (by simp;omega))]
theorem hasS_mem (l:List St) (x:St):hasS l x=true↔x∈l:=by
 unfold hasS;rw [List.any_eq_true]
 constructor
 ·rintro ⟨y,hy,e⟩;rw [← of_decide_eq_true e];exact hy
 ·intro h;exact ⟨x,h,eqSt_self x⟩
theorem insS_mem (l:List St) (x z:St):z∈insS l x↔z∈l∨z=x:=by
 unfold insS
 by_cases h:hasS l x=true
 ·rw [if_pos h]
  exact ⟨.inl,fun h'=>h'.elim id (fun e=>e ▸ (hasS_mem l x).1 h)⟩
 ·rw [if_neg h]
  unfold insAt
  rw [List.mem_append,List.mem_cons]
  have:=List.take_append_drop (posS l x) l
  constructor
  ·rintro (h | h | h)
   ·exact .inl (List.mem_of_mem_take h)
   ·exact .inr h
   ·exact .inl (List.mem_of_mem_drop h)
  ·rintro (h | h)
   ·rw [← this] at h
    rcases List.mem_append.1 h with h | h
    ·exact .inl h
    ·exact .inr (.inr h)
   ·exact .inr (.inl h)
theorem pos_take:∀ (l:List St) (x z:St),z∈l.take (posS l x)→cmpSt z x < 0
 | [],_,_,h=>by simp at h
 | a :: r,x,z,h=>by
  unfold posS at h
  by_cases ha:cmpSt a x < 0
  ·rw [if_pos ha] at h
   rcases List.mem_cons.1 (by simpa using h) with rfl | h
   ·exact ha
   ·exact pos_take r x z h
  ·rw [if_neg ha] at h;simp at h
theorem pos_drop:∀ (l:List St) (x z:St),Asc l→z∈l.drop (posS l x)→¬ cmpSt z x < 0
 | [],_,_,_,h=>by simp at h
 | a :: r,x,z,hl,h=>by
  unfold posS at h
  by_cases ha:cmpSt a x < 0
  ·rw [if_pos ha] at h
   exact pos_drop r x z (List.pairwise_cons.1 hl).2 (by simpa using h)
  ·rw [if_neg ha] at h
   rcases List.mem_cons.1 (by simpa using h) with rfl | h
   ·exact ha
   ·have:=(List.pairwise_cons.1 hl).1 z h
    intro hz;exact ha (lt_trans' this hz)
theorem insS_asc {l:List St} (h:Asc l) (x:St):Asc (insS l x):=by
 unfold insS
 by_cases hx:hasS l x=true
 ·rw [if_pos hx];exact h
 ·rw [if_neg hx]
  have hn:¬ x∈l:=fun h'=>hx ((hasS_mem l x).2 h')
  have h1:Asc (l.take (posS l x)):=h.sublist (List.take_sublist _ _)
  have h2:Asc (l.drop (posS l x)):=h.sublist (List.drop_sublist _ _)
  have h3:∀ a∈l.take (posS l x),∀ b∈l.drop (posS l x),cmpSt a b < 0:=by
   have:=h
   rw [Asc,← List.take_append_drop (posS l x) l,List.pairwise_append] at this
   exact this.2.2
  unfold insAt Asc
  rw [List.pairwise_append,List.pairwise_cons]
  refine ⟨h1,⟨fun b hb=>?_,h2⟩,fun a ha b hb=>?_⟩
  ·have h4:=pos_drop l x b h hb
   have h5:¬ cmpSt b x=0:=fun e=>hn ((cmpSt_zero b x).1 e ▸ List.mem_of_mem_drop hb)
   have:=wcmp_st.neg b x
   omega
  ·rcases List.mem_cons.1 hb with rfl | hb
   ·exact pos_take l b a ha
   ·exact h3 a ha b hb
theorem insAll_asc:∀ (l acc:List St),Asc acc→Asc (insAll acc l)
 | [],_,h=>h
 | x :: l,_,h=>insAll_asc l _ (insS_asc h x)
theorem insAll_mem:∀ (l acc:List St) (z:St),z∈insAll acc l↔z∈acc∨z∈l
 | [],acc,z=>by simp [insAll]
 | x :: l,acc,z=>by
  unfold insAll
  rw [insAll_mem l,insS_mem,List.mem_cons,or_assoc]
theorem insS_len (l:List St) (x:St):(insS l x).length≤l.length+1:=by
 unfold insS insAt;split
 ·omega
 ·simp [List.length_take,List.length_drop];have:=pos_le l x;omega
theorem insAll_step (acc l:List St) (k:Nat) (hk:k < l.length):insAll acc (l.drop k)=insAll (insS acc l[k]) (l.drop (k+1)):=by
 rw [List.drop_eq_getElem_cons hk];rfl
theorem insAll_end (acc l:List St) (k:Nat) (hk:¬ k < l.length):insAll acc (l.drop k)=acc:=by
 rw [List.drop_eq_nil_of_le (by omega)];rfl
theorem insS_has {l:List St} {x:St} (h:hasS l x=true):insS l x=l:=if_pos h
theorem insS_not {l:List St} {x:St} (h:hasS l x=false):insS l x=insAt l x (posS l x):=if_neg (by rw [h];exact Bool.false_ne_true)

theorem app_grow {P:Program} {w:World} {ops:Array Oper} {rest:List Oper} {o:Oper} {a:Act} {Q:Exit→Act→World→Prop} {t e:TypeId} {z:Value} {size bytes:Nat}
  (ht:P.underlying t=some (.slice e)) (hinfo:(P.info? e).map (fun i=>(i.zero,i.size,i.bytes))=some (some z,size,bytes)) (hzs:z.cells.size=size) (hsz:0 < size) (hby:bytes≤1000)
  (hgd:o.guard=none) (s x:Operand) (ho:o.op=.call { callee:=.builtin .append,args:=#[s,x],argTypes:=#[t,t] })
  {ao:Option Addr} {n cap:Nat} {olds:List Value} (hs:a.eval s=.slice ao n cap) (hnone:ao=none→n=0∧cap=0) (hlo:olds.length=n * size) (holds:∀ b,ao=some b→∀ j u,olds[j]? = some u→w.cell? (b.add j)=some u)
  {b off m c:Nat} {news:List Value} (hx:a.eval x=.slice (some ⟨b,off,none⟩) m c) (hn:news.length=m * size) (hc:∀ j u,news[j]? = some u→w.cell? ⟨b,off+j,none⟩=some u) (h1c:∀ u∈news,u.oneCell'=true)
  (hfull:cap < n+m) (hmx:n+m≤100000000000)
  (hK:∀ v' w',w'.ownsRow w.heap.size e size v' (n+m) (olds++news)→Below w.heap.size w w'→wpList P ops Q rest (a.put o.dst v') w'):wpList P ops Q (o :: rest) a w:=by
 obtain ⟨i,hi,hz0,hz1,hz2⟩:=info_parts hinfo
 have hb:(n+m) * bytes≤140737488355328:=Nat.le_trans (Nat.mul_le_mul (Nat.le_refl _) hby) (by omega)
 refine wpList_append_grows w hgd s x t ho e i z size bytes ht hi hz0 hz1 hz2 hzs hsz ao n cap olds hs hnone hlo holds ⟨b,off,none⟩ m c news hx hn ?_ h1c hfull (by simp only [maxLen];omega) hb ?_
 ·intro j u hu
  have hadd:(⟨b,off,none⟩:Addr).add j=⟨b,off+j,none⟩:=by unfold Addr.add;split <;> simp_all
  rw [hadd];exact hc j u hu
 ·intro v' w' h1 h2
  exact hK v' w' h1 ⟨h2.os,h2.tape,h2.output,h2.size,fun k hk=>h2.block k hk (by simp)⟩
def Halt_ (p:Prop):Prop:=p
theorem halt_ {p:Prop} (h:Halt_ p):p:=h
theorem st_info:(Tryz.prog.info? 80).map (fun i=>(i.zero,i.size,i.bytes))=some (some (.agg #[.int .i64 0,.string ByteArray.empty,.string ByteArray.empty,.string ByteArray.empty,.string ByteArray.empty,.string ByteArray.empty,.string ByteArray.empty,.string ByteArray.empty,.string ByteArray.empty]),9,136):=by kernel_rfl
theorem st_one (s:St):∀ u∈s.cells,u.oneCell'=true:=by
 intro u hu;simp [St.cells] at hu;rcases hu with rfl | rfl | rfl | rfl | rfl | rfl | rfl | rfl | rfl <;> rfl
theorem sts_one (l:List St):∀ u∈l.flatMap St.cells,u.oneCell'=true:=by
 intro u hu
 obtain ⟨s,_,hs⟩:=List.mem_flatMap.1 hu
 exact st_one s u hs
theorem flat_drop (l:List St) (j:Nat) (hj:j≤l.length) (i:Nat):((l.drop j).flatMap St.cells)[i]? = (l.flatMap St.cells)[j * 9+i]? := by
 have h:=List.take_append_drop j l
 have e:(l.flatMap St.cells)=(l.take j).flatMap St.cells++(l.drop j).flatMap St.cells:=by rw [← List.flatMap_append,h]
 have hl:((l.take j).flatMap St.cells).length=j * 9:=by rw [flat_len _ 9 St.cells_len,List.length_take];congr 1;omega
 rw [e,List.getElem?_append_right (by omega),hl]
 congr 1;omega
theorem addr_add (b o i:Nat):(⟨b,o,none⟩:Addr).add i=⟨b,o+i,none⟩:=by unfold Addr.add;split <;> simp_all
theorem flat_take (l:List St) (j:Nat) (i:Nat) (u:Value) (h:((l.take j).flatMap St.cells)[i]? = some u):(l.flatMap St.cells)[i]? = some u:=by
 have e:(l.flatMap St.cells)=(l.take j).flatMap St.cells++(l.drop j).flatMap St.cells:=by rw [← List.flatMap_append,List.take_append_drop]
 rw [e]
 have hi:=(List.getElem?_eq_some_iff.1 h).1
 rw [List.getElem?_append_left hi];exact h
theorem take_len9 (l:List St) (j:Nat) (hj:j≤l.length):((l.take j).flatMap St.cells).length=j * 9:=by
 rw [flat_len _ 9 St.cells_len,List.length_take];congr 1;omega
theorem drop_len9 (l:List St) (j:Nat):((l.drop j).flatMap St.cells).length=(l.length - j) * 9:=by
 rw [flat_len _ 9 St.cells_len,List.length_drop]
theorem sl_app {l:List St} {x:St} {j:Nat} (_:j≤l.length):(l.take j).flatMap St.cells++x.cells++(l.drop j).flatMap St.cells=(insAt l x j).flatMap St.cells:=by
 unfold insAt;rw [List.flatMap_append,List.flatMap_cons,List.append_assoc]
theorem insAt_len {l:List St} {x:St} {j:Nat} (hj:j≤l.length):(insAt l x j).length=j+1+(l.length - j):=by
 unfold insAt;rw [List.length_append,List.length_cons,List.length_take,List.length_drop];omega
theorem below_of_none {w w':World} (h:w.grownBy w' none):Below w.heap.size w w':=⟨h.os,h.tape,h.output,h.size,fun k hk=>h.block k hk (by simp)⟩
theorem own_gt_ne {w:World} {base size n g:Nat} {e:TypeId} {v:Value} {xs:List Value} (h:w.ownsRow base e size v n xs) (hg:g < base):some g≠v.ownBlock:=by
 intro he;have:=(h.lt g he.symm).1;omega
theorem below_own {B:Nat} {a w w':World} {base size n:Nat} {e:TypeId} {v:Value} {xs:List Value} (h:Below B a w) (ho:w.ownsRow base e size v n xs) (hg:w.grownBy w' v.ownBlock) (hB:B≤w.heap.size) (hb:B≤base):Below B a w' :=
 h.grown hg hB (fun k hk=>Nat.le_trans hb (ho.lt k hk).1)
section
variable {P:Program}
theorem run_append_zero (w:World) (t ty e:TypeId) (i:TypeInfo) (ht:P.underlying t=some (.slice e)) (hi:P.info? e=some i) (ao:Option Addr) (n cap:Nat) (hnc:n≤cap) (ax:Option Addr) (cx:Nat) :
  (Builtin.append_ #[t,t] ty #[.slice ao n cap,.slice ax 0 cx]).run P w=.ok (.slice ao n cap) w:=by
 cases ao <;> cases ax <;> simp [Builtin.append_,run_underlying ht,sizeOf,typeInfo,hi,Builtin.lenOf,Builtin.firstCells,hnc,storeCells,loadCells,loadCellsFrom]
theorem app_zero (w:World) {ops:Array Oper} {rest:List Oper} {o:Oper} {a:Act} {Q:Exit→Act→World→Prop} (hgd:o.guard=none) (s x:Operand) (t:TypeId)
  (ho:o.op=.call { callee:=.builtin .append,args:=#[s,x],argTypes:=#[t,t] }) (e:TypeId) (i:TypeInfo) (ht:P.underlying t=some (.slice e)) (hi:P.info? e=some i)
  (ao:Option Addr) (n cap:Nat) (hnc:n≤cap) (hs:a.eval s=.slice ao n cap) (ax:Option Addr) (cx:Nat) (hx:a.eval x=.slice ax 0 cx) (h:wpList P ops Q rest (a.put o.dst (.slice ao n cap)) w):wpList P ops Q (o :: rest) a w:=by
 refine wpList_plain hgd fun K hK=>?_
 have hrun:=run_append_zero (P:=P) w t o.type e i ht hi ao n cap hnc ax cx
 unfold Oper.wp
 simp [execOp,ho,resolve,invoke,builtin,hs,hx,hrun,Result.andThen]
 exact hK _ _ h
theorem step_zero (w:World) {ops:Array Oper} {o:Oper} {a:Act} {K:Act→World→Prop} {Q:Exit→Act→World→Prop} {E:Prop} (hgd:o.guard=none) (s x:Operand) (t:TypeId)
  (ho:o.op=.call { callee:=.builtin .append,args:=#[s,x],argTypes:=#[t,t] }) (e:TypeId) (i:TypeInfo) (ht:P.underlying t=some (.slice e)) (hi:P.info? e=some i)
  (ao:Option Addr) (n cap:Nat) (hnc:n≤cap) (hs:a.eval s=.slice ao n cap) (ax:Option Addr) (cx:Nat) (hx:a.eval x=.slice ax 0 cx) (h:K (a.put o.dst (.slice ao n cap)) w) :
  if Region.wanted o (yielded ops a.tmps)=true then Oper.wp P o a w K Q else E:=by
 have hw:Region.wanted o (yielded ops a.tmps)=true:=by simp [Region.wanted,hgd]
 rw [if_pos hw]
 have hrun:=run_append_zero (P:=P) w t o.type e i ht hi ao n cap hnc ax cx
 unfold Oper.wp
 simp [execOp,ho,resolve,invoke,builtin,hs,hx,hrun,Result.andThen]
 exact h
end
theorem own_form2 {w:World} {base size n:Nat} {e:TypeId} {v:Value} {xs:List Value} (h:w.ownsRow base e size v n xs):∃ a cap,v=.slice a n cap∧n≤cap:=by
 rcases h.2 with ⟨rfl,rfl⟩ | ⟨g,cap,cur,rfl,_,_,hnc,_⟩
 ·exact ⟨_,_,rfl,Nat.le_refl _⟩
 ·exact ⟨_,_,rfl,hnc⟩
theorem app_end {l:List St} {x:St}:l.flatMap St.cells++x.cells=(insAt l x l.length).flatMap St.cells:=by
 have h:=sl_app (l:=l) (x:=x) (j:=l.length) (Nat.le_refl _)
 rw [List.take_of_length_le (Nat.le_refl _),List.drop_of_length_le (Nat.le_refl _)] at h
 rw [← h];simp
theorem insAt_end {l:List St} {x:St}:(insAt l x l.length).length=l.length+1:=by rw [insAt_len (Nat.le_refl _)];omega
abbrev Nine (w:World) (b o:Nat) (s:St):Prop :=
 w.cell? ⟨b,o,none⟩=some (.int .i64 s.k)∧w.cell? ⟨b,o+1,none⟩=some (.string s.h.o)∧w.cell? ⟨b,o+2,none⟩=some (.string s.h.n)∧w.cell? ⟨b,o+3,none⟩=some (.string s.who)∧w.cell? ⟨b,o+4,none⟩=some (.string s.a.o)∧w.cell? ⟨b,o+5,none⟩=some (.string s.a.n)∧w.cell? ⟨b,o+6,none⟩=some (.string s.b.o)∧w.cell? ⟨b,o+7,none⟩=some (.string s.b.n)∧w.cell? ⟨b,o+8,none⟩=some (.string s.via)
theorem Nine.below {w w':World} {b o:Nat} {s:St} (h:Nine w b o s) (hb:b < w.heap.size) (hw:Below w.heap.size w w'):Nine w' b o s:=by
 have k:∀ i,w'.cell? ⟨b,i,none⟩=w.cell? ⟨b,i,none⟩:=fun i=>hw.cell (p:=⟨b,i,none⟩) hb
 obtain ⟨h0,h1,h2,h3,h4,h5,h6,h7,h8⟩:=h
 exact ⟨(k _).trans h0,(k _).trans h1,(k _).trans h2,(k _).trans h3,(k _).trans h4,(k _).trans h5,(k _).trans h6,(k _).trans h7,(k _).trans h8⟩
set_option maxRecDepth 100000 in
set_option maxHeartbeats 8000000 in
theorem ref3_Sort (va:Value) (l:List St) (w:World) (ha:SlA w 9 va l.length (l.flatMap St.cells)) (hl:l.length≤1000) :
  Calls Tryz.prog 16 #[va] w fun e w' => ∃ v,e=.returned v∧Sl w' 9 v (insAll [] l).length ((insAll [] l).flatMap St.cells)∧Below w.heap.size w w':=by
 by_cases h0:0 < l.length
 ·obtain ⟨b1,o1,c1,rfl,hc1,hm1,hb1,hx1⟩:=ha.pos h0
  have HX1:=Lib.hid hx1
  clear ha hx1
  go_enter Tryz.func16,Tryz.ntmps16
  go_wp2
  go_loopw [3,10] (fun vo i wr => ∃ (k:Nat) (acc:List St),k≤l.length∧acc.length≤k∧i=.int .i64 k∧Below w.heap.size w wr∧Sl wr 9 vo acc.length (acc.flatMap St.cells)∧Hid (insAll [] l=insAll acc (l.drop k))) (fun _ i _=>l.length - (intOf i).toNat)
  case atStart=>exact ⟨0,[],by omega,by simp,rfl,Below.refl _ _,Sl.nil _ _,Lib.hid (by simp)⟩
  case round =>
   obtain ⟨k,acc,hk,hak,rfl,hbw,hso,HI⟩:=hrel
   have HBW:=Lib.hid hbw
   have HSO:=Lib.hid hso
   have hz:=hbw.size
   by_cases hlt:k < l.length
   ·obtain ⟨p0,p1,p2,p3,p4,p5,p6,p7,p8⟩:=st_cell (w:=wr) (fun j u hu=>(hbw.cell (p:=⟨b1,o1+j,none⟩) hb1).trans (HX1.out j u hu)) k hlt
    have hbr:b1 < wr.heap.size:=Nat.lt_of_lt_of_le hb1 hz
    have HST:=Lib.hid (HI.out.trans (insAll_step acc l k hlt))
    have hx:l[k]=⟨l[k].k,⟨l[k].h.o,l[k].h.n⟩,l[k].who,⟨l[k].a.o,l[k].a.n⟩,⟨l[k].b.o,l[k].b.n⟩,l[k].via⟩:=rfl
    generalize l[k].k=xk at *
    generalize l[k].h.o=x1 at *
    generalize l[k].h.n=x2 at *
    generalize l[k].who=xw at *
    generalize l[k].a.o=x3 at *
    generalize l[k].a.n=x4 at *
    generalize l[k].b.o=x5 at *
    generalize l[k].b.n=x6 at *
    generalize l[k].via=xv at *
    rw [hx] at HST
    clear hx hbw hso HI
    obtain ⟨ao,co,rfl⟩:=HSO.out.form
    go_wp2_with fail
    have HX:=Lib.hid (Blk.new wr #[.int .i64 xk,.string x1,.string x2,.string xw,.string x3,.string x4,.string x5,.string x6,.string xv] 80)
    have HS2:=Lib.hid (HSO.out.below ((Below.refl wr.heap.size wr).alloc (Nat.le_refl _) (.cells #[.int .i64 xk,.string x1,.string x2,.string xw,.string x3,.string x4,.string x5,.string x6,.string xv] 80)))
    refine (ref3_Has _ acc ⟨xk,⟨x1,x2⟩,xw,⟨x3,x4⟩,⟨x5,x6⟩,xv⟩ _ HS2.out.a).mono ?_
    rintro e w2 ⟨rfl,hb2⟩
    have HX2:=Lib.hid (HX.out.below hb2)
    have HS3:=Lib.hid (HS2.out.below hb2)
    have HB2:=Lib.hid ((HBW.out.alloc HBW.out.size _).trans (hb2.mono (Nat.le_trans HBW.out.size (by simp))))
    have hz2:=HB2.out.size
    clear hb2 HX HS2 HSO p0 p1 p2 p3 p4 p5 p6 p7 p8
    cases hh:hasS acc ⟨xk,⟨x1,x2⟩,xw,⟨x3,x4⟩,⟨x5,x6⟩,xv⟩ with
    | true =>
     have HE:=Lib.hid (HST.out.trans (by rw [insS_has hh]))
     clear hh
     go_wp2_with fail
     exact ⟨⟨k+1,acc,by omega,by omega,by go_num,HB2.out,HS3.out,HE⟩,by simp [intOf];omega⟩
    | false =>
     have HE:=Lib.hid (HST.out.trans (by rw [insS_not hh]))
     clear hh HST
     obtain ⟨g,hg⟩:∃ g,wr.heap.size=g:=⟨_,rfl⟩
     rw [hg] at HX2 ⊢
     clear hg hbr HBW hz
     go_wp2_with fail
     go_loopw [6] (fun i wr => ∃ j:Nat,j≤acc.length∧i=.int .i64 j∧Below w2.heap.size w2 wr∧Hid (∀ m (hm:m < acc.length),m < j→cmpSt acc[m] ⟨xk,⟨x1,x2⟩,xw,⟨x3,x4⟩,⟨x5,x6⟩,xv⟩ < 0)) (fun i _=>acc.length - (intOf i).toNat)
     case atStart=>exact ⟨0,by omega,rfl,Below.refl _ _,Lib.hid (fun _ _ h=>absurd h (by omega))⟩
     case round =>
      obtain ⟨j,hj,rfl,hbj,HJ⟩:=hrel
      have HBJ:=Lib.hid hbj
      by_cases hjl:j < acc.length
      ·obtain ⟨b2,o2,c2,he2,hc2,hm2,hb2,hx2⟩:=HS3.out.pos (by omega)
       simp only [Value.slice.injEq,true_and] at he2
       obtain ⟨rfl,rfl⟩:=he2
       obtain ⟨q0,q1,q2,q3,q4,q5,q6,q7,q8⟩:=st_cell (w:=wr) (fun m u hu=>(hbj.cell (p:=⟨b2,o2+m,none⟩) hb2).trans (hx2 m u hu)) j hjl
       have hbj2:b2 < wr.heap.size:=Nat.lt_of_lt_of_le hb2 hbj.size
       have HX3:=HX2.out.below hbj
       have cx:=HX3.1
       have HBF:=fun W=>ref3_Before acc[j] ⟨xk,⟨x1,x2⟩,xw,⟨x3,x4⟩,⟨x5,x6⟩,xv⟩ W
       have d:decide ((j:Int) < (acc.length:Int))=true:=by (rw [decide_eq_true_iff];omega)
       have HX4:Blk wr.drew g #[.int .i64 xk,.string x1,.string x2,.string xw,.string x3,.string x4,.string x5,.string x6,.string xv]:=HX3
       have HQ4:Nine wr.drew b2 (o2+j * 9) acc[j]:=⟨q0,q1,q2,q3,q4,q5,q6,q7,q8⟩
       have HB4:Below w2.heap.size w2 wr.drew:=below_drew hbj
       clear hx2 hbj
       cases hlt':decide (cmpSt acc[j] ⟨xk,⟨x1,x2⟩,xw,⟨x3,x4⟩,⟨x5,x6⟩,xv⟩ < 0) with
       | true =>
        have HN:Hid (∀ m (hm:m < acc.length),m < j+1→cmpSt acc[m] ⟨xk,⟨x1,x2⟩,xw,⟨x3,x4⟩,⟨x5,x6⟩,xv⟩ < 0):=Lib.hid (fun m hm hmj=>by
         by_cases hmj':m < j
         ·exact HJ.out m hm hmj'
         ·obtain rfl:m=j:=by omega
          exact of_decide_eq_true hlt')
        rw [hlt'] at HBF
        clear hlt'
        go_wp2_with fail
        go_region_held3 (fun W=>(∀ o,W.cell? ⟨g,o,none⟩=(#[.int .i64 xk,.string x1,.string x2,.string xw,.string x3,.string x4,.string x5,.string x6,.string xv]:Array Value)[o]?)∧Nine W b2 (o2+j * 9) acc[j])
         (first | exact ⟨HX4.1,HQ4⟩ | go_keep)
         ((go_at_call 56;refine (HBF _).mono ?_;rintro e wq ⟨rfl,hbq⟩;have HQ4:=HQ4.below hbj2 hbq;have HX4:=HX4.below hbq;have HB4:=HB4.trans (hbq.mono HB4.size)))
        go_wp2
        exact ⟨⟨j+1,by omega,by go_num,HB4,HN⟩,by simp [intOf];omega⟩
       | false =>
        have HLT:=Lib.hid hlt'
        rw [hlt'] at HBF
        clear hlt'
        go_wp2_with fail
        go_region_held3 (fun W=>(∀ o,W.cell? ⟨g,o,none⟩=(#[.int .i64 xk,.string x1,.string x2,.string xw,.string x3,.string x4,.string x5,.string x6,.string xv]:Array Value)[o]?)∧Nine W b2 (o2+j * 9) acc[j])
         (first | exact ⟨HX4.1,HQ4⟩ | go_keep)
         ((go_at_call 56;refine (HBF _).mono ?_;rintro e wq ⟨rfl,hbq⟩;have HQ4:=HQ4.below hbj2 hbq;have HX4:=HX4.below hbq;have HB4:=HB4.trans (hbq.mono HB4.size)))
        have hsb:=(HS3.out.below HB4).pos (by omega)
        obtain ⟨b3,o3,c3,he3,hc3,hm3,hb3,hx3⟩:=hsb
        simp only [Value.slice.injEq,Option.some.injEq,Addr.mk.injEq,true_and,and_true] at he3
        obtain ⟨⟨rfl,rfl⟩,rfl⟩:=he3
        have HSB:=Lib.hid hx3
        clear hx3
        go_wp2_with (at_builtin;refine halt_ ?_)
        unfold Halt_
        refine app_grow Tryz.underlying22 st_info rfl (by decide) (by decide) rfl _ _ rfl (ao:=some ⟨wq.heap.size,0,none⟩) (n:=0) (cap:=0) (olds:=[]) rfl (by simp) (by simp) (by simp) (b:=b2) (off:=o2+j * 9) (m:=acc.length - j) (c:=co - j) (news:=(acc.drop j).flatMap St.cells) rfl ?_ ?_ (sts_one _) (by omega) (by omega) ?_
        ·rw [flat_len _ 9 St.cells_len,List.length_drop]
        ·intro i u hu
         rw [flat_drop acc j hj] at hu
         have:=HSB.out _ _ hu
         rw [← Nat.add_assoc] at this
         exact (World.cell?_alloc_past _ _ _ hb3).trans this
        intro v5 w5 hown5 hb5
        have hwq:wq.heap.size < (wq.alloc (.cells #[] 80)).heap.size:=by simp
        have HX5:Blk w5 g #[.int .i64 xk,.string x1,.string x2,.string xw,.string x3,.string x4,.string x5,.string x6,.string xv]:=(HX4.alloc _).below hb5
        have hh5:b2 < w5.heap.size:=Nat.lt_of_lt_of_le hb3 (Nat.le_trans (Nat.le_of_lt hwq) hb5.size)
        have HS5:∀ i u,(acc.flatMap St.cells)[i]? = some u→w5.cell? ⟨b2,o2+i,none⟩=some u:=fun i u hu=>(hb5.cell (p:=⟨b2,o2+i,none⟩) (Nat.lt_trans hb3 hwq)).trans ((World.cell?_alloc_past _ _ _ hb3).trans (HSB.out i u hu))
        have HB5:Below w2.heap.size w2 w5:=(HB4.alloc HB4.size _).trans (hb5.mono (Nat.le_trans HB4.size (Nat.le_of_lt hwq)))
        simp only [Nat.zero_add,List.nil_append] at hown5
        obtain ⟨g5,c5,rfl,hg5a,hg5b⟩:=hown5.form (show 0 < acc.length - j by omega)
        have HO5:=Lib.hid hown5
        have HB5':=Lib.hid HB5
        obtain ⟨inf,hi,hz0,hz1,hz2⟩:=info_parts st_info
        have HINF:=Lib.hid hi
        have HX6:Blk w5.drew g #[.int .i64 xk,.string x1,.string x2,.string xw,.string x3,.string x4,.string x5,.string x6,.string xv]:=HX5
        have HSX:=Lib.hid (fun i u (hu:(acc.flatMap St.cells)[i]? = some u)=>show w5.drew.cell? ⟨b2,o2+i,none⟩=some u from HS5 i u hu)
        have HOD:=Lib.hid (show w5.drew.ownsRow _ _ 9 _ _ _ from hown5)
        have c5x:=HX5.1
        have hgb:g < (w5.drew.alloc (.cells #[.int .i64 xk,.string x1,.string x2,.string xw,.string x3,.string x4,.string x5,.string x6,.string xv] 80)).heap.size:=Nat.lt_of_lt_of_le HX6.2.2 (((Below.refl _ w5.drew).alloc (Nat.le_refl _) _).size)
        have hi1:(0:Int)≤(j:Int):=by omega
        have hi2:(j:Int)≤(acc.length:Int):=by omega
        have hi3:(j:Int)≤(co:Int):=by omega
        clear hown5 hb5 HS5 HB5 HX5 HX4 HB4 HQ4 hi HBF hwq hb3 hbq cx HX3 q0 q1 q2 q3 q4 q5 q6 q7 q8 d
        go_wp2_with fail
        go_region_held3 (fun W => ∀ o,W.cell? ⟨g,o,none⟩=(#[.int .i64 xk,.string x1,.string x2,.string xw,.string x3,.string x4,.string x5,.string x6,.string xv]:Array Value)[o]?)
         (first | exact HX6.1 | exact (HX6.alloc _).1 | exact HX7.1 | exact HX9.1 | go_keep)
         (first
          | (refine step_append_grows rfl _ _ 22 rfl 80 inf _ 9 136 Tryz.underlying22 HINF.out hz0 hz1 hz2 rfl (Nat.le_of_ble_eq_true rfl) (some ⟨b2,o2,none⟩) j j ((acc.take j).flatMap St.cells) rfl ?_ (take_len9 acc j hj) ?_ ⟨w5.heap.size,0,none⟩ 1 1 (St.cells ⟨xk,⟨x1,x2⟩,xw,⟨x3,x4⟩,⟨x5,x6⟩,xv⟩) rfl rfl ?_ (st_one _) (Nat.lt_succ_self _) ?_ ?_ ?_;(intro h;cases h);(intro b hb i u hu;cases hb;rw [addr_add];exact (World.cell?_alloc_past _ _ _ hh5).trans (HSX.out i u (flat_take acc j i u hu)));exact cells_new _ _ _ _ rfl;(simp only [maxLen];omega);omega;intro v7 w7 hown7 hg7;have hb7:=below_of_none hg7;have HX7:=(HX6.alloc _).below hb7;have HO7:=own_below (own_below HOD.out ((Below.refl _ _).alloc (Nat.le_refl _) _)) hb7)
          | (refine step_append_lies _ rfl _ _ 22 rfl _ 80 inf _ 9 136 Tryz.underlying22 HINF.out hz0 hz1 hz2 rfl (Nat.le_of_ble_eq_true rfl) v7 (j+1) _ rfl hown7 ⟨g5,0,none⟩ (acc.length - j) c5 ((acc.drop j).flatMap St.cells) rfl (drop_len9 acc j) (HO7.cells (g:=g5) rfl) (sts_one _) ?_ ?_ ?_ hb7.size _ rfl ?_;omega;(simp only [maxLen];omega);omega;intro g9 c9 w9 hown9 hg9 hor9 hlt9;have HX9:=HX7.grown hg9 (own_gt_ne hown7 hgb)))
        have HBw5:=HB2.out.trans (HB5'.out.mono HB2.out.size)
        have HBw6:=(below_drew HBw5).alloc (B:=w.heap.size) HBw5.size (.cells #[.int .i64 xk,.string x1,.string x2,.string xw,.string x3,.string x4,.string x5,.string x6,.string xv] 80)
        have HBw7:=HBw6.trans (hb7.mono HBw6.size)
        have HB9:=Lib.hid (below_own HBw7 hown7 hg9 HBw7.size HBw6.size)
        have HSL9:=Lib.hid (Sl.of_own hown9)
        have HPS:=Lib.hid (pos_of acc ⟨xk,⟨x1,x2⟩,xw,⟨x3,x4⟩,⟨x5,x6⟩,xv⟩ j hj HJ.out (fun _=>of_decide_eq_false HLT.out))
        clear hown9 hg9 hown7 hg7 hb7 HX9 HX7 HO7 HBw5 HBw6 HBw7
        go_wp2
        exact ⟨⟨k+1,insAt acc ⟨xk,⟨x1,x2⟩,xw,⟨x3,x4⟩,⟨x5,x6⟩,xv⟩ j,by omega,by rw [insAt_len hj];omega,by go_num,HB9.out,by rw [insAt_len hj,← sl_app hj];exact HSL9.out,Lib.hid (by rw [HE.out,HPS.out])⟩,by simp [intOf];omega⟩
      ·obtain rfl:j=acc.length:=by omega
       have HPS:=Lib.hid (pos_of acc ⟨xk,⟨x1,x2⟩,xw,⟨x3,x4⟩,⟨x5,x6⟩,xv⟩ acc.length (Nat.le_refl _) HJ.out (fun h=>absurd h hjl))
       obtain ⟨inf,hi,hz0,hz1,hz2'⟩:=info_parts st_info
       have HINF:=Lib.hid hi
       have HX3:=HX2.out.below hbj
       have cx:=HX3.1
       have d:decide ((acc.length:Int) < (acc.length:Int))=false:=by (rw [decide_eq_false_iff_not];omega)
       clear hi hjl hj
       rcases HS3.out.2.2 with ⟨hv,hn0⟩ | ⟨b2,o2,c2,hv,hc2,hm2,hb2,hx2⟩
       ·skip
        have hacc:acc=[]:=List.eq_nil_of_length_eq_zero hn0
        simp only [Value.slice.injEq] at hv
        obtain ⟨rfl,-,rfl⟩:=hv
        simp only [hn0]
        clear d
        clear hbj
        go_wp2_with fail
        go_big_quiet (fail)
        go_wp2_with (at_builtin;refine halt_ ?_)
        unfold Halt_
        refine app_zero _ rfl _ _ 22 rfl 80 inf Tryz.underlying22 HINF.out (some ⟨wr.heap.size,0,none⟩) 0 0 (Nat.le_refl _) rfl _ _ rfl ?_
        obtain ⟨w5,hw5⟩:∃ w5,w5=(wr.drewN nq).alloc (.cells #[] 80):=⟨_,rfl⟩
        have hb5:Below wr.heap.size wr w5:=by rw [hw5];exact (below_drewN (Below.refl _ _) _).alloc (Nat.le_refl _) _
        have hh0:wr.heap.size≤w5.heap.size:=hb5.size
        rw [← hw5]
        have HX5:Blk w5 g #[.int .i64 xk,.string x1,.string x2,.string xw,.string x3,.string x4,.string x5,.string x6,.string xv]:=HX3.below hb5
        have HB5':=Lib.hid (HBJ.out.trans (hb5.mono HBJ.out.size))
        have HX6:Blk w5.drew g #[.int .i64 xk,.string x1,.string x2,.string xw,.string x3,.string x4,.string x5,.string x6,.string xv]:=HX5
        have c5x:=HX5.1
        have hgb:g < (w5.drew.alloc (.cells #[.int .i64 xk,.string x1,.string x2,.string xw,.string x3,.string x4,.string x5,.string x6,.string xv] 80)).heap.size:=Nat.lt_of_lt_of_le HX6.2.2 (((Below.refl _ w5.drew).alloc (Nat.le_refl _) _).size)
        clear hw5 hb5 HX5 HX3 cx
        go_wp2_with fail
        go_region_held3 (fun W => ∀ o,W.cell? ⟨g,o,none⟩=(#[.int .i64 xk,.string x1,.string x2,.string xw,.string x3,.string x4,.string x5,.string x6,.string xv]:Array Value)[o]?)
         (first | exact HX6.1 | exact (HX6.alloc _).1 | exact HX7.1 | go_keep)
         (first
          | (refine step_append_grows rfl _ _ 22 rfl 80 inf _ 9 136 Tryz.underlying22 HINF.out hz0 hz1 hz2' rfl (Nat.le_of_ble_eq_true rfl) none 0 0 [] rfl ?_ rfl ?_ ⟨w5.heap.size,0,none⟩ 1 1 (St.cells ⟨xk,⟨x1,x2⟩,xw,⟨x3,x4⟩,⟨x5,x6⟩,xv⟩) rfl rfl ?_ (st_one _) (Nat.lt_succ_self _) ?_ ?_ ?_;(intro _;exact ⟨rfl,rfl⟩);(intro b hb;cases hb);exact cells_new _ _ _ _ rfl;(simp only [maxLen];omega);omega;intro v7 w7 hown7 hg7;obtain ⟨a7,c7,rfl,hc7⟩:=own_form2 hown7;have hb7:=below_of_none hg7;have HX7:=(HX6.alloc _).below hb7)
          | (refine step_zero _ rfl _ _ 22 rfl 80 inf Tryz.underlying22 HINF.out _ _ c7 hc7 rfl _ _ rfl ?_))
        have HBw5:=HB2.out.trans (HB5'.out.mono HB2.out.size)
        have HBw6:=(below_drew HBw5).alloc (B:=w.heap.size) HBw5.size (.cells #[.int .i64 xk,.string x1,.string x2,.string xw,.string x3,.string x4,.string x5,.string x6,.string xv] 80)
        have HB9:=Lib.hid (HBw6.trans (hb7.mono HBw6.size))
        have HSL9:=Lib.hid (Sl.of_own hown7)
        clear hg7 hb7 hown7 HX7 HBw5 HBw6
        go_wp2
        exact ⟨⟨k+1,insAt acc ⟨xk,⟨x1,x2⟩,xw,⟨x3,x4⟩,⟨x5,x6⟩,xv⟩ acc.length,by omega,by rw [insAt_end];omega,by go_num,HB9.out,by rw [insAt_end,← app_end,hacc];exact HSL9.out,Lib.hid (by rw [HE.out,HPS.out])⟩,by simp [intOf];omega⟩
       ·simp only [Value.slice.injEq,true_and] at hv
        obtain ⟨rfl,rfl⟩:=hv
        by_cases hco:co=acc.length
        ·skip
         subst hco
         clear hbj
         go_wp2_with fail
         go_big_quiet (fail)
         go_wp2_with (at_builtin;refine halt_ ?_)
         unfold Halt_
         refine app_zero _ rfl _ _ 22 rfl 80 inf Tryz.underlying22 HINF.out (some ⟨wr.heap.size,0,none⟩) 0 0 (Nat.le_refl _) rfl _ _ rfl ?_
         obtain ⟨w5,hw5⟩:∃ w5,w5=(wr.drewN nq).alloc (.cells #[] 80):=⟨_,rfl⟩
         have hb5:Below wr.heap.size wr w5:=by rw [hw5];exact (below_drewN (Below.refl _ _) _).alloc (Nat.le_refl _) _
         have hh0:wr.heap.size≤w5.heap.size:=hb5.size
         rw [← hw5]
         have HX5:Blk w5 g #[.int .i64 xk,.string x1,.string x2,.string xw,.string x3,.string x4,.string x5,.string x6,.string xv]:=HX3.below hb5
         have HB5':=Lib.hid (HBJ.out.trans (hb5.mono HBJ.out.size))
         have hh5:b2 < w5.heap.size:=Nat.lt_of_lt_of_le hb2 HB5'.out.size
         have HSX:=Lib.hid (fun i u (hu:(acc.flatMap St.cells)[i]? = some u)=>show w5.drew.cell? ⟨b2,o2+i,none⟩=some u from (HB5'.out.cell (p:=⟨b2,o2+i,none⟩) hb2).trans (hx2 i u hu))
         have hi1:(0:Int)≤(acc.length:Int):=by omega
         have hi3:(acc.length:Int)≤(acc.length:Int):=by omega
         have HX6:Blk w5.drew g #[.int .i64 xk,.string x1,.string x2,.string xw,.string x3,.string x4,.string x5,.string x6,.string xv]:=HX5
         have c5x:=HX5.1
         have hgb:g < (w5.drew.alloc (.cells #[.int .i64 xk,.string x1,.string x2,.string xw,.string x3,.string x4,.string x5,.string x6,.string xv] 80)).heap.size:=Nat.lt_of_lt_of_le HX6.2.2 (((Below.refl _ w5.drew).alloc (Nat.le_refl _) _).size)
         clear hw5 hb5 HX5 HX3 cx hx2
         go_wp2_with fail
         go_region_held3 (fun W => ∀ o,W.cell? ⟨g,o,none⟩=(#[.int .i64 xk,.string x1,.string x2,.string xw,.string x3,.string x4,.string x5,.string x6,.string xv]:Array Value)[o]?)
          (first | exact HX6.1 | exact (HX6.alloc _).1 | exact HX7.1 | go_keep)
          (first
           | (refine step_append_grows rfl _ _ 22 rfl 80 inf _ 9 136 Tryz.underlying22 HINF.out hz0 hz1 hz2' rfl (Nat.le_of_ble_eq_true rfl) (some ⟨b2,o2,none⟩) acc.length acc.length (acc.flatMap St.cells) rfl ?_ (flat_len _ 9 St.cells_len acc) ?_ ⟨w5.heap.size,0,none⟩ 1 1 (St.cells ⟨xk,⟨x1,x2⟩,xw,⟨x3,x4⟩,⟨x5,x6⟩,xv⟩) rfl rfl ?_ (st_one _) (Nat.lt_succ_self _) ?_ ?_ ?_;(intro h;cases h);(intro b hb i u hu;cases hb;rw [addr_add];exact (World.cell?_alloc_past _ _ _ hh5).trans (HSX.out i u hu));exact cells_new _ _ _ _ rfl;(simp only [maxLen];omega);omega;intro v7 w7 hown7 hg7;obtain ⟨a7,c7,rfl,hc7⟩:=own_form2 hown7;have hb7:=below_of_none hg7;have HX7:=(HX6.alloc _).below hb7)
           | (refine step_zero _ rfl _ _ 22 rfl 80 inf Tryz.underlying22 HINF.out _ _ c7 hc7 rfl _ _ rfl ?_))
         have HBw5:=HB2.out.trans (HB5'.out.mono HB2.out.size)
         have HBw6:=(below_drew HBw5).alloc (B:=w.heap.size) HBw5.size (.cells #[.int .i64 xk,.string x1,.string x2,.string xw,.string x3,.string x4,.string x5,.string x6,.string xv] 80)
         have HB9:=Lib.hid (HBw6.trans (hb7.mono HBw6.size))
         have HSL9:=Lib.hid (Sl.of_own hown7)
         clear hg7 hb7 hown7 HX7 HBw5 HBw6
         go_wp2
         exact ⟨⟨k+1,insAt acc ⟨xk,⟨x1,x2⟩,xw,⟨x3,x4⟩,⟨x5,x6⟩,xv⟩ acc.length,by omega,by rw [insAt_end];omega,by go_num,HB9.out,by rw [insAt_end,← app_end];exact HSL9.out,Lib.hid (by rw [HE.out,HPS.out])⟩,by simp [intOf];omega⟩
        ·skip
         have hco2:acc.length < co:=by omega
         clear hbj
         go_wp2_with fail
         go_big_quiet (fail)
         go_wp2_with (at_builtin;refine halt_ ?_)
         unfold Halt_
         refine app_zero _ rfl _ _ 22 rfl 80 inf Tryz.underlying22 HINF.out (some ⟨wr.heap.size,0,none⟩) 0 0 (Nat.le_refl _) rfl _ _ rfl ?_
         obtain ⟨w5,hw5⟩:∃ w5,w5=(wr.drewN nq).alloc (.cells #[] 80):=⟨_,rfl⟩
         have hb5:Below wr.heap.size wr w5:=by rw [hw5];exact (below_drewN (Below.refl _ _) _).alloc (Nat.le_refl _) _
         have hh0:wr.heap.size≤w5.heap.size:=hb5.size
         rw [← hw5]
         have HX5:Blk w5 g #[.int .i64 xk,.string x1,.string x2,.string xw,.string x3,.string x4,.string x5,.string x6,.string xv]:=HX3.below hb5
         have HB5':=Lib.hid (HBJ.out.trans (hb5.mono HBJ.out.size))
         have hh5:b2 < w5.heap.size:=Nat.lt_of_lt_of_le hb2 HB5'.out.size
         have HSX:=Lib.hid (fun i u (hu:(acc.flatMap St.cells)[i]? = some u)=>show w5.drew.cell? ⟨b2,o2+i,none⟩=some u from (HB5'.out.cell (p:=⟨b2,o2+i,none⟩) hb2).trans (hx2 i u hu))
         have hi1:(0:Int)≤(acc.length:Int):=by omega
         have hi3:(acc.length:Int)≤(co:Int):=by omega
         have HX6:Blk w5.drew g #[.int .i64 xk,.string x1,.string x2,.string xw,.string x3,.string x4,.string x5,.string x6,.string xv]:=HX5
         have c5x:=HX5.1
         have hgb:g < (w5.drew.alloc (.cells #[.int .i64 xk,.string x1,.string x2,.string xw,.string x3,.string x4,.string x5,.string x6,.string xv] 80)).heap.size:=Nat.lt_of_lt_of_le HX6.2.2 (((Below.refl _ w5.drew).alloc (Nat.le_refl _) _).size)
         clear hw5 hb5 HX5 HX3 cx hx2
         go_wp2_with fail
         go_region_held3 (fun W => ∀ o,W.cell? ⟨g,o,none⟩=(#[.int .i64 xk,.string x1,.string x2,.string xw,.string x3,.string x4,.string x5,.string x6,.string xv]:Array Value)[o]?)
          (first | exact HX6.1 | exact (HX6.alloc _).1 | exact HX7.1 | go_keep)
          (first
           | (refine step_append_grows rfl _ _ 22 rfl 80 inf _ 9 136 Tryz.underlying22 HINF.out hz0 hz1 hz2' rfl (Nat.le_of_ble_eq_true rfl) (some ⟨b2,o2,none⟩) acc.length acc.length (acc.flatMap St.cells) rfl ?_ (flat_len _ 9 St.cells_len acc) ?_ ⟨w5.heap.size,0,none⟩ 1 1 (St.cells ⟨xk,⟨x1,x2⟩,xw,⟨x3,x4⟩,⟨x5,x6⟩,xv⟩) rfl rfl ?_ (st_one _) (Nat.lt_succ_self _) ?_ ?_ ?_;(intro h;cases h);(intro b hb i u hu;cases hb;rw [addr_add];exact (World.cell?_alloc_past _ _ _ hh5).trans (HSX.out i u hu));exact cells_new _ _ _ _ rfl;(simp only [maxLen];omega);omega;intro v7 w7 hown7 hg7;obtain ⟨a7,c7,rfl,hc7⟩:=own_form2 hown7;have hb7:=below_of_none hg7;have HX7:=(HX6.alloc _).below hb7)
           | (refine step_zero _ rfl _ _ 22 rfl 80 inf Tryz.underlying22 HINF.out _ _ c7 hc7 rfl _ _ rfl ?_))
         have HBw5:=HB2.out.trans (HB5'.out.mono HB2.out.size)
         have HBw6:=(below_drew HBw5).alloc (B:=w.heap.size) HBw5.size (.cells #[.int .i64 xk,.string x1,.string x2,.string xw,.string x3,.string x4,.string x5,.string x6,.string xv] 80)
         have HB9:=Lib.hid (HBw6.trans (hb7.mono HBw6.size))
         have HSL9:=Lib.hid (Sl.of_own hown7)
         clear hg7 hb7 hown7 HX7 HBw5 HBw6
         go_wp2
         exact ⟨⟨k+1,insAt acc ⟨xk,⟨x1,x2⟩,xw,⟨x3,x4⟩,⟨x5,x6⟩,xv⟩ acc.length,by omega,by rw [insAt_end];omega,by go_num,HB9.out,by rw [insAt_end,← app_end];exact HSL9.out,Lib.hid (by rw [HE.out,HPS.out])⟩,by simp [intOf];omega⟩
   ·have R:=Lib.hid (HI.out.trans (insAll_end acc l k hlt))
    obtain ⟨ao,co,rfl⟩:=hso.form
    clear hbw hso
    go_wp2
    go_ret
    exact ⟨_,rfl,by rw [R.out];exact HSO.out,HBW.out⟩
 ·obtain ⟨a1,c1,rfl⟩:=ha.form
  obtain rfl:l=[]:=List.eq_nil_of_length_eq_zero (by omega)
  clear ha h0 hl
  go_enter Tryz.func16,Tryz.ntmps16
  go_wp2
  go_loopw [3,10] (fun vo i wr=>vo=.slice none 0 0∧i=.int .i64 0∧wr=w) (fun _ _ _=>0)
  case atStart=>exact ⟨rfl,rfl,rfl⟩
  case round =>
   obtain ⟨rfl,rfl,rfl⟩:=hrel
   go_wp2
   go_ret
   exact ⟨_,rfl,Sl.nil _ _,Below.refl _ _⟩
end
end Go.Proofs.YtomhekohcadijaaGreatDoor
