/- Parts: HighLaw RlConc RlDel OwnMono HighFns HighEval LeastEx Law10P DlLaw DlFns DlSame PolSame HighLives -/
import Derived.Test.YtilgbodgmkmjjaaGreatDoorPart16
import Derived.Test.YtilgbodgmkmjjaaGreatDoorPart11
import Derived.Test.YtilgbodgmkmjjaaGreatDoorPart9
import Derived.Test.YtilgbodgmkmjjaaGreatDoorPart5
import Derived.Test.YtilgbodgmkmjjaaGreatDoorPart1
import Derived.Test.YtilgbodgmkmjjaaGreatDoorPart6
namespace Go.Proofs.YtilgbodgmkmjjaaGreatDoor
section
open Go.RowKit Go.Shelf

def memS (r:Rl) (x:ByteArray):St:=⟨1,r,x,noR,noR,emp⟩
def allR (A B:List ByteArray):List Rl:=A.flatMap (fun a=>B.map (fun n=>⟨a,n⟩))
def putX (A:List ByteArray):List ByteArray:=insSB A (freshB A)
def rolesX (A B:List ByteArray) (g:List Rl):List Rl:=ordR ((allR (putX A) B).filter (fun r => !hasR g r))
def memsX (R:List Rl) (A:List ByteArray):List St:=R.flatMap (fun r=>A.map (memS r))
def maxS (l:List St) (g:List Rl) (A B:List ByteArray):List St:=ord (l++memsX (rolesX A B g) (putX A))
theorem allR_mem {A B:List ByteArray} {r:Rl}:r∈allR A B↔r.o∈A∧r.n∈B:=by
 unfold allR
 rw [List.mem_flatMap]
 constructor
 ·rintro ⟨a,ha,hr⟩
  obtain ⟨n,hn,rfl⟩:=List.mem_map.1 hr
  exact ⟨ha,hn⟩
 ·rintro ⟨h1,h2⟩
  exact ⟨r.o,h1,List.mem_map.2 ⟨r.n,h2,rfl⟩⟩
theorem allR_len (A B:List ByteArray):(allR A B).length=A.length * B.length:=by
 unfold allR
 induction A with
 | nil=>simp
 | cons a r ih=>rw [List.flatMap_cons,List.length_append,ih,List.length_map,List.length_cons,Nat.add_mul,Nat.one_mul,Nat.add_comm]
theorem putX_mem {A:List ByteArray} {x:ByteArray}:x∈putX A↔x∈A∨x=freshB A:=insS_memB A _ x
theorem putX_len (A:List ByteArray):(putX A).length≤A.length+1:=insS_lenB A _
theorem putX_asc {A:List ByteArray} (h:AscB A):AscB (putX A):=insS_ascB h _
theorem hasR_no {l:List Rl} {r:Rl}:(!hasR l r)=true↔r ∉ l:=by
 rw [← hasR_mem];cases hasR l r <;> simp
theorem rolesX_mem {A B:List ByteArray} {g:List Rl} {r:Rl}:r∈rolesX A B g↔(r.o∈putX A∧r.n∈B)∧r ∉ g:=by
 unfold rolesX
 rw [ord_memR,List.mem_filter,allR_mem,hasR_no]
theorem rolesX_len (A B:List ByteArray) (g:List Rl):(rolesX A B g).length≤(A.length+1) * B.length:=by
 unfold rolesX
 refine Nat.le_trans (ord_lenR _) (Nat.le_trans (List.length_filter_le _ _) ?_)
 rw [allR_len]
 exact Nat.mul_le_mul (putX_len A) (Nat.le_refl _)
theorem memsX_mem {R:List Rl} {A:List ByteArray} {s:St}:s∈memsX R A↔∃ r x,s=memS r x∧r∈R∧x∈A:=by
 unfold memsX
 rw [List.mem_flatMap]
 constructor
 ·rintro ⟨r,hr,hs⟩
  obtain ⟨x,hx,rfl⟩:=List.mem_map.1 hs
  exact ⟨r,x,rfl,hr,hx⟩
 ·rintro ⟨r,x,rfl,hr,hx⟩
  exact ⟨r,hr,List.mem_map.2 ⟨x,hx,rfl⟩⟩
theorem memsX_len (R:List Rl) (A:List ByteArray):(memsX R A).length=R.length * A.length:=by
 unfold memsX
 induction R with
 | nil=>simp
 | cons a r ih=>rw [List.flatMap_cons,List.length_append,ih,List.length_map,List.length_cons,Nat.add_mul,Nat.one_mul,Nat.add_comm]
theorem maxS_mem {l:List St} {g:List Rl} {A B:List ByteArray} {s:St}:s∈maxS l g A B↔s∈l∨∃ r x,s=memS r x∧((r.o∈putX A∧r.n∈B)∧r ∉ g)∧x∈putX A:=by
 unfold maxS
 rw [ord_mem,List.mem_append,memsX_mem]
 constructor
 ·rintro (h | ⟨r,x,h1,h2,h3⟩)
  ·exact .inl h
  ·exact .inr ⟨r,x,h1,rolesX_mem.1 h2,h3⟩
 ·rintro (h | ⟨r,x,h1,h2,h3⟩)
  ·exact .inl h
  ·exact .inr ⟨r,x,h1,rolesX_mem.2 h2,h3⟩
theorem maxS_len (l:List St) (g:List Rl) (A B:List ByteArray):(maxS l g A B).length≤l.length+(A.length+1) * (A.length+1) * B.length:=by
 unfold maxS
 refine Nat.le_trans (ord_len _) ?_
 rw [List.length_append,memsX_len]
 have h1:=Nat.mul_le_mul (rolesX_len A B g) (putX_len A)
 have h2:(A.length+1) * B.length * (A.length+1)=(A.length+1) * (A.length+1) * B.length:=by rw [Nat.mul_right_comm]
 omega
theorem maxS_in {l:List St} {g:List Rl} {A B:List ByteArray} (h:∀ s∈l,InAB A B s):∀ s∈maxS l g A B,InAB (putX A) B s:=by
 intro s hs
 rcases maxS_mem.1 hs with h1 | ⟨r,x,rfl,⟨⟨h2,h3⟩,_⟩,h4⟩
 ·have:=h s h1
  exact ⟨fun x hx=>⟨putX_mem.2 (.inl (this.r x hx).1),(this.r x hx).2⟩,fun x hx=>putX_mem.2 (.inl (this.w x hx)),this.v⟩
 ·refine ⟨fun y hy=>?_,fun y hy=>?_,fun y hy=>?_⟩
  ·have:y∈[r]:=hy
   rw [List.mem_singleton.1 this];exact ⟨h2,h3⟩
  ·have:y∈[x]:=hy
   rw [List.mem_singleton.1 this];exact h4
  ·have:y∈([]:List ByteArray):=hy
   cases this
def sig (A:List ByteArray) (x:ByteArray):ByteArray:=if hasB A x=true then x else freshB A
theorem sig_in {A:List ByteArray} {x:ByteArray} (h:x∈A):sig A x=x:=if_pos ((hasB_mem A x).2 h)
theorem sig_no {A:List ByteArray} {x:ByteArray} (h:x ∉ A):sig A x=freshB A:=if_neg (fun e=>h ((hasB_mem A x).1 e))
theorem sig_putX (A:List ByteArray) (x:ByteArray):sig A x∈putX A:=by
 rw [putX_mem];unfold sig;split
 ·exact .inl ((hasB_mem A x).1 ‹_›)
 ·exact .inr rfl
theorem roles_head (s:St):s.h∈rolesS s:=by
 unfold rolesS
 split
 ·simp
 ·split <;> simp
theorem max_bounds {l c:List St} {g:List Rl} {A B:List ByteArray} {D E:Rl→ByteArray→Prop} (hAB:∀ s∈l,InAB A B s) (hg:∀ r∈g,r.o∈A) (hD:LeastS (maxS l g A B) D) (hE:LeastS c E)
  (hc:∀ s∈c,s∈l∨s.h ∉ g):∀ r x,E r x→r.n∈B→D ⟨sig A r.o,r.n⟩ (sig A x):=by
 intro r x h
 refine hE.min (fun r x=>r.n∈B→D ⟨sig A r.o,r.n⟩ (sig A x)) ?_ r x h
 have anew:∀ s∈c,s ∉ l→∀ y,s.h.n∈B→D ⟨sig A s.h.o,s.h.n⟩ (sig A y):=by
  intro s hs hl y hn
  have hng:s.h ∉ g:=by
   rcases hc s hs with h | h
   ·exact absurd h hl
   ·exact h
  refine hD.clo.mem (memS ⟨sig A s.h.o,s.h.n⟩ (sig A y)) (maxS_mem.2 (.inr ⟨_,_,rfl,⟨⟨sig_putX A _,hn⟩,fun hm=>?_⟩,sig_putX A _⟩)) rfl
  have ho:=hg _ hm
  dsimp only at ho
  by_cases e:s.h.o∈A
  ·rw [sig_in e] at hm;exact hng hm
  ·rw [sig_no e] at ho;exact freshB_not A ho
 have hh:∀ s∈l,(⟨sig A s.h.o,s.h.n⟩:Rl)=s.h:=fun s hs=>by rw [sig_in ((hAB s hs).r _ (roles_head s)).1]
 have ha:∀ s∈l,s.k=2∨s.k=3∨s.k=4→(⟨sig A s.a.o,s.a.n⟩:Rl)=s.a∧s.a.n∈B:=fun s hs hk=>by
  have:=(hAB s hs).r s.a (by
   unfold rolesS
   rcases hk with h | h | h
   ·rw [if_pos (.inl h)];simp
   ·rw [if_pos (.inr h)];simp
   ·rw [if_neg (by omega),if_pos h];simp)
  exact ⟨by rw [sig_in this.1],this.2⟩
 have hb:∀ s∈l,s.k=4→(⟨sig A s.b.o,s.b.n⟩:Rl)=s.b∧s.b.n∈B:=fun s hs hk=>by
  have:=(hAB s hs).r s.b (by unfold rolesS;rw [if_neg (by omega),if_pos hk];simp)
  exact ⟨by rw [sig_in this.1],this.2⟩
 have lm:∀ s∈l,s∈maxS l g A B:=fun s hs=>maxS_mem.2 (.inl hs)
 refine ⟨fun s hs hk hn=>?_,fun s hs hk x h1 hn=>?_,fun s hs hk x y h1 h2 hn=>?_,fun s hs hk x h1 h2 hn=>?_⟩ <;> by_cases hl:s∈l
 ·rw [hh s hl,sig_in ((hAB s hl).w _ (by unfold whoS;rw [if_pos hk];simp))]
  exact hD.clo.mem s (lm s hl) hk
 ·exact anew s hs hl _ hn
 ·rw [hh s hl]
  obtain ⟨e,hn'⟩:=ha s hl (.inl hk)
  have:=h1 hn'
  rw [e] at this
  exact hD.clo.incl s (lm s hl) hk _ this
 ·exact anew s hs hl _ hn
 ·rw [hh s hl]
  obtain ⟨e,hn'⟩:=ha s hl (.inr (.inl hk))
  have:=h1 hn'
  rw [e] at this
  exact hD.clo.link s (lm s hl) hk _ _ this (h2 ((hAB s hl).v _ (by unfold viaS;rw [if_pos hk];simp)))
 ·exact anew s hs hl _ hn
 ·rw [hh s hl]
  obtain ⟨e,hn'⟩:=ha s hl (.inr (.inr hk))
  obtain ⟨e',hn''⟩:=hb s hl hk
  have k1:=h1 hn'
  have k2:=h2 hn''
  rw [e] at k1
  rw [e'] at k2
  exact hD.clo.both s (lm s hl) hk _ k1 k2
 ·exact anew s hs hl _ hn
theorem digit_alnum {n:Nat}:∀ c∈decL n,alnum c=true:=by
 induction n using Nat.strongRecOn with
 | ind n ih =>
  have hc:∀ d,d < 10→alnum (UInt8.ofNat (48+d))=true:=fun d hd=>by
   have:d=0∨d=1∨d=2∨d=3∨d=4∨d=5∨d=6∨d=7∨d=8∨d=9:=by omega
   rcases this with rfl | rfl | rfl | rfl | rfl | rfl | rfl | rfl | rfl | rfl <;> decide
  by_cases h:n < 10
  ·rw [decL_small h]
   intro c hm
   rw [List.mem_singleton.1 hm]
   exact hc n h
  ·rw [decL,if_neg h]
   intro c hm
   rcases List.mem_append.1 hm with hm | hm
   ·exact ih (n / 10) (by omega) c hm
   ·rw [List.mem_singleton.1 hm]
    exact hc _ (by omega)
theorem fresh_prin {A:List ByteArray} (h:A.length≤16):isP 65 90 (bl (freshB A))=true:=by
 obtain ⟨k,h1,h2,_,e⟩:=freshB_is A
 have hk:=xdec_few h2
 rw [e]
 unfold xdec
 rw [bl_toBA]
 unfold isP
 have hl:(decL k).length≤2:=by
  by_cases h10:k < 10
  ·rw [decL_small h10];exact (show 1≤2 by decide)
  ·rw [decL_big h10,decL_small (by omega),decL_small (by omega)];exact (show 2≤2 by decide)
 rw [Bool.and_eq_true,Bool.and_eq_true,List.all_cons,Bool.and_eq_true]
 refine ⟨⟨?_,by decide⟩,by decide,List.all_eq_true.2 (fun c hc=>digit_alnum c hc)⟩
 rw [decide_eq_true_iff,List.length_cons];omega
theorem right_mem {r:Rl} {x:ByteArray} (h1:isRole r=true) (h2:isP 65 90 (bl x)=true):rightS (memS r x)=true:=by
 unfold memS;rw [rightS1,h1,h2];simp [eqSt]
theorem maxS_right {l:List St} {g:List Rl} {A B:List ByteArray} (hl:∀ s∈l,rightS s=true) (hA:∀ a∈A,isP 65 90 (bl a)=true) (hB:∀ n∈B,isP 97 122 (bl n)=true) (h6:A.length≤16):∀ s∈maxS l g A B,rightS s=true:=by
 have hX:∀ a∈putX A,isP 65 90 (bl a)=true:=fun a ha=>by
  rcases putX_mem.1 ha with h | rfl
  ·exact hA a h
  ·exact fresh_prin h6
 intro s hs
 rcases maxS_mem.1 hs with h1 | ⟨r,x,rfl,⟨⟨h2,h3⟩,_⟩,h4⟩
 ·exact hl s h1
 ·exact right_mem (by unfold isRole;rw [hX _ h2,hB _ h3];rfl) (hX _ h4)
theorem isP_size {lo hi:Int} {x:ByteArray} (h:isP lo hi (bl x)=true):x.size≤8:=by
 unfold isP at h
 split at h
 ·cases h
 ·rename_i c r e
  rw [Bool.and_eq_true,Bool.and_eq_true,decide_eq_true_iff] at h
  have:=bl_len x
  rw [e] at this
  omega
theorem right_roles {s:St} (h:rightS s=true):(∀ r∈rolesS s,isRole r=true)∧(∀ x∈whoS s,isP 65 90 (bl x)=true)∧∀ x∈viaS s,isP 97 122 (bl x)=true:=by
 have hk:=right_kinds h
 unfold rightS at h
 rw [Bool.and_eq_true] at h
 obtain ⟨hh,h⟩:=h
 unfold rolesS whoS viaS
 rcases hk with e | e | e | e
 ·rw [if_pos e] at h
  simp only [Bool.and_eq_true] at h
  rw [if_neg (by omega),if_neg (by omega),if_pos e,if_neg (by omega)]
  exact ⟨fun r hr=>by rw [List.mem_singleton.1 hr];exact hh,fun x hx=>by rw [List.mem_singleton.1 hx];exact h.1.1.1,fun x hx=>by cases hx⟩
 ·rw [if_neg (by omega),if_pos e] at h
  simp only [Bool.and_eq_true] at h
  rw [if_pos (.inl e),if_neg (by omega),if_neg (by omega)]
  refine ⟨fun r hr=>?_,fun x hx=>(by cases hx),fun x hx=>(by cases hx)⟩
  simp only [List.mem_cons,List.not_mem_nil,or_false] at hr
  rcases hr with rfl | rfl
  ·exact hh
  ·exact h.1.1.2
 ·rw [if_neg (by omega),if_neg (by omega),if_pos e] at h
  simp only [Bool.and_eq_true] at h
  rw [if_pos (.inr e),if_neg (by omega),if_pos e]
  refine ⟨fun r hr=>?_,fun x hx=>(by cases hx),fun x hx=>by rw [List.mem_singleton.1 hx];exact h.2⟩
  simp only [List.mem_cons,List.not_mem_nil,or_false] at hr
  rcases hr with rfl | rfl
  ·exact hh
  ·exact h.1.1.2
 ·rw [if_neg (by omega),if_neg (by omega),if_neg (by omega),if_pos e] at h
  simp only [Bool.and_eq_true] at h
  rw [if_neg (by omega),if_pos e,if_neg (by omega),if_neg (by omega)]
  refine ⟨fun r hr=>?_,fun x hx=>(by cases hx),fun x hx=>(by cases hx)⟩
  simp only [List.mem_cons,List.not_mem_nil,or_false] at hr
  rcases hr with rfl | rfl | rfl
  ·exact hh
  ·exact h.1.1.1.2
  ·exact h.1.1.2
theorem role_parts {r:Rl} (h:isRole r=true):isP 65 90 (bl r.o)=true∧isP 97 122 (bl r.n)=true:=by
 unfold isRole at h;rwa [Bool.and_eq_true] at h
theorem rightQ_parts {q:Qv} {us:List ByteArray} (h:rightQ q us=true):(1≤q.k∧q.k≤6)∧(∀ r∈rolesQ q,isRole r=true)∧∀ x∈us,isP 65 90 (bl x)=true:=by
 unfold rightQ at h
 simp only [Bool.and_eq_true,decide_eq_true_iff] at h
 obtain ⟨h1,h2,h3,h4,h5⟩:=h
 refine ⟨⟨h1,h2⟩,fun r hr=>?_,fun x hx=>?_⟩
 ·unfold rolesQ at hr
  by_cases e:q.k=5∨q.k=6
  ·rw [if_pos e] at hr
   rw [if_pos (by omega)] at h5
   simp only [Bool.and_eq_true] at h5
   simp only [List.mem_cons,List.not_mem_nil,or_false] at hr
   rcases hr with rfl | rfl
   ·exact h3
   ·exact h5.1
  ·rw [if_neg e] at hr
   rw [List.mem_singleton.1 hr];exact h3
 ·obtain ⟨i,hi,rfl⟩:=List.getElem_of_mem hx
  unfold rises at h4
  rw [List.all_eq_true] at h4
  have:=h4 i (List.mem_range.2 hi)
  unfold risesAt at this
  rw [Bool.and_eq_true] at this
  rw [List.getD_eq_getElem?_getD,List.getElem?_eq_getElem hi] at this
  exact this.1
theorem RightP.names {l:List St} {g h:List Rl} {qs:List Qv} {F:Qv→List ByteArray} (hr:RightP l g h qs F):(∀ x∈newB (allPrins l g h qs F),isP 65 90 (bl x)=true)∧∀ x∈newB (allNames l g h qs),isP 97 122 (bl x)=true:=by
 obtain ⟨h1,h2,h3,_⟩:=hr
 have hroles:∀ r∈allRoles l g h qs,isRole r=true:=by
  intro r hr
  unfold allRoles at hr
  rw [List.mem_append,List.mem_append,List.mem_append] at hr
  rcases hr with ((hr | hr) | hr) | hr
  ·obtain ⟨s,hs,hr⟩:=List.mem_flatMap.1 hr
   exact (right_roles (h1 s hs)).1 r hr
  ·exact h2 r (List.mem_append.2 (.inl hr))
  ·exact h2 r (List.mem_append.2 (.inr hr))
  ·obtain ⟨q,hq,hr⟩:=List.mem_flatMap.1 hr
   exact (rightQ_parts (h3 q hq)).2.1 r hr
 refine ⟨fun x hx=>?_,fun x hx=>?_⟩
 ·rw [new_mem] at hx
  unfold allPrins at hx
  rw [List.mem_append,List.mem_append] at hx
  rcases hx with (hx | hx) | hx
  ·obtain ⟨r,hr,rfl⟩:=List.mem_map.1 hx
   exact (role_parts (hroles r hr)).1
  ·obtain ⟨s,hs,hx⟩:=List.mem_flatMap.1 hx
   exact (right_roles (h1 s hs)).2.1 x hx
  ·obtain ⟨q,hq,hx⟩:=List.mem_flatMap.1 hx
   exact (rightQ_parts (h3 q hq)).2.2 x hx
 ·rw [new_mem] at hx
  unfold allNames at hx
  rw [List.mem_append] at hx
  rcases hx with hx | hx
  ·obtain ⟨r,hr,rfl⟩:=List.mem_map.1 hx
   exact (role_parts (hroles r hr)).2
  ·obtain ⟨s,hs,hx⟩:=List.mem_flatMap.1 hx
   exact (right_roles (h1 s hs)).2.2 x hx
theorem maxS_le {l:List St} {g:List Rl} {A B:List ByteArray} (hl:allLe l 4294967) (hA:∀ a∈A,isP 65 90 (bl a)=true) (hB:∀ n∈B,isP 97 122 (bl n)=true) (h60:A.length≤60):allLe (maxS l g A B) 4294967:=by
 have hX:∀ a∈putX A,a.size≤4294967:=fun a ha=>by
  rcases putX_mem.1 ha with h | rfl
  ·have:=isP_size (hA a h);omega
  ·have:=freshB_size A;omega
 intro s hs
 rcases maxS_mem.1 hs with h1 | ⟨r,x,rfl,⟨⟨h2,h3⟩,_⟩,h4⟩
 ·exact hl s h1
 ·have:=isP_size (hB _ h3)
  exact ⟨⟨hX _ h2,by dsimp only [memS];omega⟩,hX _ h4,⟨Nat.zero_le 4294967,Nat.zero_le 4294967⟩,⟨Nat.zero_le 4294967,Nat.zero_le 4294967⟩,Nat.zero_le 4294967⟩
end
section
open Go.RowKit Go.Shelf

theorem rl_Grow (n:Nat) (w:World) (hn:n≤2000):Calls Tryz.prog 245 #[.slice none 0 0,.int .i64 n] w fun e w' =>
  ∃ a cap,e=.returned (.slice a 0 cap)∧w'.ownsRow w.heap.size 28 2 (.slice a 0 cap) 0 []∧Below w.heap.size w w':=by
 by_cases h0:0 < n
 ·obtain ⟨inf,hinf,hz0,hz1,hz2⟩:=info_parts rl_info'
  refine (Any8.slices_Grow_grow Tryz.growR inf _ hinf hz0 (by omega) none 0 0 n [] w (Nat.le_refl _) (by omega) (by rw [hz2];omega) (by omega) (by simp) (fun _=>rfl) (fun a h=>by cases h)).mono ?_
  rintro e w' ⟨rfl,rfl⟩
  have hge:=grownCap_ge w (0+n) 0 28
  have hle:=grownCap_le_maxLen w (0+n) 0 28 (by simp only [maxLen];omega)
  refine ⟨_,_,rfl,World.ownsRow_made w.drew _ _ (Nat.le_refl _) hle ?_,(below_drew (Below.refl _ _)).alloc (Nat.le_refl _) _⟩
  rw [Nat.zero_add] at hge hle ⊢
  simp [Builtin.zeroCells,Value.cells]
  rw [show Tryz.growR_ren.t 25=28 from rfl]
  omega
 ·obtain rfl:n=0:=by omega
  refine (Any8.slices_Grow_room Tryz.growR none 0 0 0 w (Nat.le_refl _) (by omega) (by omega) (by omega)).mono ?_
  rintro e w' ⟨rfl,rfl⟩
  exact ⟨_,_,rfl,World.ownsRow_nil _ _ _ _,Below.refl _ _⟩
set_option maxRecDepth 100000 in
set_option maxHeartbeats 4000000 in
theorem rl_Concat (g:Nat) (va vb:Value) (l m:List Rl) (w:World) (hg:Blk w g #[va,vb]) (ha:SlA w 2 va l.length (l.flatMap Rl.cells)) (hb:SlA w 2 vb m.length (m.flatMap Rl.cells)) (hl:l.length≤1000) (hm:m.length≤1000) :
  Calls Tryz.prog 175 #[.slice (some ⟨g,0,none⟩) 2 2] w fun e w' => ∃ v,e=.returned v∧Sl w' 2 v (l++m).length ((l++m).flatMap Rl.cells)∧Below w.heap.size w w':=by
 have HA:=Lib.hid ha
 have HB:=Lib.hid hb
 have HG:=Lib.hid hg
 obtain ⟨ao,ac,hva⟩:=ha.form
 obtain ⟨bo,bc,hvb⟩:=hb.form
 subst hva hvb
 have GR:Hid (∀ W,Calls Tryz.prog 245 #[.slice none 0 0,.int .i64 ((l.length:Int)+(m.length:Int))] W fun e w' =>
   ∃ a cap,e=.returned (.slice a 0 cap)∧w'.ownsRow W.heap.size 28 2 (.slice a 0 cap) 0 []∧Below W.heap.size W w'):=Lib.hid (fun W=>by
  have h:=rl_Grow (l.length+m.length) W (by omega)
  rw [Int.natCast_add] at h
  exact h)
 have c0:w.cell? ⟨g,0,none⟩=some (.slice ao l.length ac):=(hg.1 0).trans rfl
 have c1:w.cell? ⟨g,1,none⟩=some (.slice bo m.length bc):=(hg.1 1).trans rfl
 have hgw:g < w.heap.size:=hg.2.2
 clear ha hb hg
 go_enter Tryz.func175,Tryz.ntmps175
 go_wp2
 go_loop [3,11] (fun n i=>(n=.int .i64 0∧i=.int .i64 0)∨(n=.int .i64 l.length∧i=.int .i64 1)∨(n=.int .i64 ((l.length:Int)+(m.length:Int))∧i=.int .i64 2)) (fun _ i=>2 - (intOf i).toNat)
 case atStart=>exact .inl ⟨rfl,rfl⟩
 case round =>
  obtain ⟨rfl,rfl⟩ | ⟨rfl,rfl⟩ | ⟨rfl,rfl⟩:=hrel
  ·have d:decide ((l.length:Int) < 0)=false:=by (rw [decide_eq_false_iff_not];omega)
   have hw:IntKind.i64.wrap ((0:Int)+(l.length:Int))=(l.length:Int):=by rw [Int.zero_add];exact Go.IntWalk.i64_in _ (by omega)
   go_wp2
   exact ⟨.inr (.inl ⟨rfl,rfl⟩),by simp [intOf]⟩
  ·have d:decide ((l.length:Int)+(m.length:Int) < 0)=false:=by (rw [decide_eq_false_iff_not];omega)
   have hw:IntKind.i64.wrap ((l.length:Int)+(m.length:Int))=(l.length:Int)+(m.length:Int):=Go.IntWalk.i64_in _ (by omega)
   go_wp2
   exact ⟨.inr (.inr ⟨rfl,rfl⟩),by simp [intOf]⟩
  ·go_wp2_with fail
   refine (GR.out _).mono ?_
   rintro e w1 ⟨a1,cap1,rfl,hown,hb1⟩
   have HO:=Lib.hid hown
   have HB1:=Lib.hid hb1
   clear hown hb1 c0 c1 hgw
   go_wp2_with fail
   go_loopw [6,27] (fun vo i wr=>Hid (Below w.heap.size w wr)∧((i=.int .i64 0∧Hid (wr.ownsRow w.heap.size 28 2 vo 0 []))∨(i=.int .i64 1∧Hid (wr.ownsRow w.heap.size 28 2 vo l.length (l.flatMap Rl.cells)))∨(i=.int .i64 2∧Hid (wr.ownsRow w.heap.size 28 2 vo (l.length+m.length) ((l++m).flatMap Rl.cells))))) (fun _ i _=>2 - (intOf i).toNat)
   case atStart=>exact ⟨HB1,.inl ⟨rfl,HO⟩⟩
   case round =>
    obtain ⟨HBR,⟨rfl,HOR⟩ | ⟨rfl,HOR⟩ | ⟨rfl,HOR⟩⟩:=hrel
    ·have hbk:=HG.out.below HBR.out
     have c0:wr.cell? ⟨g,0,none⟩=some (.slice ao l.length ac):=(hbk.1 0).trans rfl
     have hgw:g < wr.heap.size:=hbk.2.2
     obtain ⟨xo,xc,rfl⟩:=own_form HOR.out
     clear hbk
     go_wp2_with (at_builtin;refine halt_ ?_)
     unfold Halt_
     refine app_row Tryz.underlying23 rl_info' rfl (by decide) (by decide) rfl _ _ rfl w.heap.size rfl HOR.out rfl (HA.out.below HBR.out) (rls_one _) (by omega) HBR.out.size ?_
     intro a' cap' w3 hown' hgrow
     have HO3:=Lib.hid (show w3.ownsRow w.heap.size 28 2 (.slice a' l.length cap') l.length (l.flatMap Rl.cells) by simpa using hown')
     have HB3:=Lib.hid (below_own HBR.out HOR.out hgrow HBR.out.size (Nat.le_refl _))
     clear hown' hgrow
     go_wp2_with fail
     exact ⟨⟨HB3,.inr (.inl ⟨rfl,HO3⟩)⟩,by simp [intOf]⟩
    ·have hbk:=HG.out.below HBR.out
     have c1:wr.cell? ⟨g,1,none⟩=some (.slice bo m.length bc):=(hbk.1 1).trans rfl
     have hgw:g < wr.heap.size:=hbk.2.2
     obtain ⟨xo,xc,rfl⟩:=own_form HOR.out
     clear hbk
     go_wp2_with (at_builtin;refine halt_ ?_)
     unfold Halt_
     refine app_row Tryz.underlying23 rl_info' rfl (by decide) (by decide) rfl _ _ rfl w.heap.size rfl HOR.out rfl (HB.out.below HBR.out) (rls_one _) (by omega) HBR.out.size ?_
     intro a' cap' w3 hown' hgrow
     have HO3:=Lib.hid (show w3.ownsRow w.heap.size 28 2 (.slice a' (l.length+m.length) cap') (l.length+m.length) ((l++m).flatMap Rl.cells) by rw [rl_flat];exact hown')
     have HB3:=Lib.hid (below_own HBR.out HOR.out hgrow HBR.out.size (Nat.le_refl _))
     clear hown' hgrow
     go_wp2_with fail
     exact ⟨⟨HB3,.inr (.inr ⟨rfl,HO3⟩)⟩,by simp [intOf]⟩
    ·obtain ⟨xo,xc,rfl⟩:=own_form HOR.out
     have HS:=Lib.hid (Sl.of_own HOR.out)
     go_wp2_with fail
     go_ret
     exact ⟨_,rfl,by rw [List.length_append];exact HS.out,HBR.out⟩
end
section
open Go.RowKit Go.Shelf

def IdxP (l:List Rl) (p:Rl→Bool) (i:Int):Prop :=
 (i = -1∧∀ x∈l,p x=false)∨∃ k:Nat,∃ hk:k < l.length,i=k∧p l[k]=true∧∀ j (hj:j < l.length),j < k→p l[j]=false

set_option maxRecDepth 100000 in
set_option maxHeartbeats 2000000 in
theorem rl_IndexFunc (va:Value) (l:List Rl) (w:World) (ha:SlA w 2 va l.length (l.flatMap Rl.cells)) (g:Nat) (cb:Array Value) (p:Rl→Bool)
  (eg:∀ args w,(callFunc g args).run Tryz.prog w=.ok (.enter g args) w)
  (hp:∀ x W,x∈l→Below w.heap.size w W→Calls Tryz.prog g (#[rv x]++cb) W fun e w'=>e=.returned (.bool (p x))∧Below W.heap.size W w') :
  Calls Tryz.prog 178 #[va,.func (.func g) #[] cb] w fun e w'=>(∃ i:Int,e=.returned (.int .i64 i)∧IdxP l p i)∧Below w.heap.size w w':=by
 have HP:=Lib.hid hp
 have HA:=Lib.hid ha
 have hmax:=ha.max
 obtain ⟨ao,cap,hva⟩:=ha.form
 subst hva
 clear ha hp
 go_enter Tryz.func178,Tryz.ntmps178
 go_wp2
 go_loopw [8] (fun i wr => ∃ k:Nat,k≤l.length∧i=.int .i64 k∧Hid (Below w.heap.size w wr)∧Hid (∀ j (hj:j < l.length),j < k→p l[j]=false)) (fun i _=>l.length - (intOf i).toNat)
 case atStart=>exact ⟨0,by omega,rfl,Lib.hid (Below.refl _ _),Lib.hid (fun _ _ h=>absurd h (by omega))⟩
 case round =>
  obtain ⟨k,hk,rfl,HB,HJ⟩:=hrel
  by_cases hlt:k < l.length
  ·obtain ⟨b1,o1,c1,he1,hc1,hm1,hb1,hx1⟩:=HA.out.pos (by omega)
   simp only [Value.slice.injEq,true_and] at he1
   obtain ⟨rfl,rfl⟩:=he1
   obtain ⟨p0,p1⟩:=rl_cell (w:=wr) (fun j u hu=>(HB.out.cell (p:=⟨b1,o1+j,none⟩) hb1).trans (hx1 j u hu)) k hlt
   have hbr:b1 < wr.heap.size:=Nat.lt_of_lt_of_le hb1 HB.out.size
   have PC:=Lib.hid (fun W h=>HP.out l[k] W (List.getElem_mem hlt) h)
   have YES:Hid (p l[k]=true→IdxP l p k):=Lib.hid (fun h=>.inr ⟨k,hlt,rfl,h,HJ.out⟩)
   have HJ2:Hid (p l[k]=false→∀ j (hj:j < l.length),j < k+1→p l[j]=false):=Lib.hid (fun hpk j hj hjk=>by
    by_cases h:j < k
    ·exact HJ.out j hj h
    ·obtain rfl:j=k:=by omega
     exact hpk)
   clear hx1
   generalize p l[k]=px at PC YES HJ2
   generalize l[k]=x at *
   obtain ⟨x1,x2⟩:=x
   go_wp2_with fail
   refine (PC.out _ HB.out).mono ?_
   rintro e w2 ⟨rfl,hb2⟩
   have HB2:=Lib.hid (HB.out.trans (hb2.mono HB.out.size))
   clear hb2
   cases px with
   | true =>
    have R:=Lib.hid (YES.out rfl)
    go_wp2
    go_ret
    exact ⟨⟨(k:Int),rfl,R.out⟩,HB2.out⟩
   | false =>
    have HJ3:=Lib.hid (HJ2.out rfl)
    go_wp2
    exact ⟨⟨k+1,by omega,by go_num,HB2,HJ3⟩,by simp [intOf];omega⟩
  ·have R:Hid (IdxP l p (-1)):=Lib.hid (.inl ⟨rfl,fun x hx=>by
    obtain ⟨j,hj,rfl⟩:=List.getElem_of_mem hx
    exact HJ.out j hj (by omega)⟩)
   go_wp2
   go_ret
   exact ⟨⟨-1,rfl,R.out⟩,HB.out⟩

structure HalfF (w:World) (b o:Nat) (l:List Rl) (np:Rl→Bool) (j i:Nat):Prop where
 len:((l.take j).filter np).length=i
 low:∀ k (hk:k < ((l.take j).filter np).length),Two w b (o+k * 2) ((l.take j).filter np)[k]
 high:∀ k (hk:k < l.length),j≤k→Two w b (o+k * 2) l[k]
 all:∀ k,k < l.length→∃ s0,Two w b (o+k * 2) s0
theorem HalfF.move {w w':World} {b o j i:Nat} {l:List Rl} {np:Rl→Bool} (h:HalfF w b o l np j i) (hw:∀ i,w'.cell? ⟨b,i,none⟩=w.cell? ⟨b,i,none⟩):HalfF w' b o l np j i :=
 ⟨h.len,fun k hk=>(h.low k hk).drop1 (fun _ _ _=>hw _),fun k hk hj=>(h.high k hk hj).drop1 (fun _ _ _=>hw _),fun k hk=>(h.all k hk).elim fun s0 h0=>⟨s0,h0.drop1 (fun _ _ _=>hw _)⟩⟩
theorem HalfF.skip {w:World} {b o j i:Nat} {l:List Rl} {np:Rl→Bool} (h:HalfF w b o l np j i) (hj:j < l.length) (e:np l[j]=false):HalfF w b o l np (j+1) i:=by
 have hd:=filter_noR hj e
 exact ⟨by rw [hd];exact h.len,fun k hk=>by simp only [hd];exact h.low k (by rw [← hd];exact hk),fun k hk hjk=>h.high k hk (by omega),h.all⟩
theorem HalfF.put {w:World} {b o j i:Nat} {l:List Rl} {np:Rl→Bool} (h:HalfF w b o l np j i) (hj:j < l.length) (hij:i≤j) (e:np l[j]=true):HalfF (W2 w b (o+i * 2) l[j]) b o l np (j+1) (i+1):=by
 have hd:=filter_yesR hj e
 refine ⟨by rw [hd,List.length_append,h.len];rfl,fun k hk=>?_,fun k hk hjk=>?_,fun k hk=>?_⟩
 ·rw [hd,List.length_append,h.len] at hk
  simp only [List.length_cons,List.length_nil] at hk
  by_cases hik:k < i
  ·have e1:((l.take (j+1)).filter np)[k]'(by rw [hd,List.length_append,h.len];simp;omega)=((l.take j).filter np)[k]'(by rw [h.len];exact hik):=by
    simp only [hd];rw [List.getElem_append_left]
   rw [e1]
   exact (h.low k (by rw [h.len];exact hik)).drop1 (fun _ _ _=>w2_far _ _ _ _ _ (by omega))
  ·obtain rfl:k=i:=by omega
   have e1:((l.take (j+1)).filter np)[k]'(by rw [hd,List.length_append,h.len];simp)=l[j]:=by
    simp only [hd];rw [List.getElem_append_right (by rw [h.len];exact Nat.le_refl _)];simp [h.len]
   rw [e1]
   obtain ⟨s0,h0⟩:=h.all k (by omega)
   exact w2_new _ _ h0
 ·exact (h.high k hk (by omega)).drop1 (fun _ _ _=>w2_far _ _ _ _ _ (by omega))
 ·obtain ⟨s0,h0⟩:=h.all k hk
  by_cases hik:k=i
  ·subst hik;exact ⟨_,w2_new _ _ h0⟩
  ·exact ⟨s0,h0.drop1 (fun _ _ _=>w2_far _ _ _ _ _ (by omega))⟩
theorem HalfF.start {w:World} {b o k:Nat} {l:List Rl} {np:Rl→Bool} (hx:∀ j u,(l.flatMap Rl.cells)[j]? = some u→w.cell? ⟨b,o+j,none⟩=some u) (hk:k < l.length) (h0:np l[k]=false) (h1:∀ j (hj:j < l.length),j < k→np l[j]=true):HalfF w b o l np (k+1) k:=by
 have hd:(l.take (k+1)).filter np=l.take k:=by
  rw [filter_noR hk h0,List.filter_eq_self]
  intro x hx
  obtain ⟨j,hj,rfl⟩:=List.getElem_of_mem hx
  rw [List.getElem_take]
  rw [List.length_take] at hj
  exact h1 j (by omega) (by omega)
 refine ⟨by rw [hd,List.length_take];omega,fun i hi=>?_,fun i hi _=>rl_cell (w:=w) hx i hi,fun i hi=>⟨_,rl_cell (w:=w) hx i hi⟩⟩
 have hi':i < l.length:=by rw [hd,List.length_take] at hi;omega
 have e:((l.take (k+1)).filter np)[i]=l[i]:=by simp only [hd,List.getElem_take]
 rw [e]
 exact rl_cell (w:=w) hx i hi'
theorem HalfF.done {w:World} {b o j i:Nat} {l:List Rl} {np:Rl→Bool} (h:HalfF w b o l np j i) (hj:j=l.length):(l.filter np).length=i∧∀ k (hk:k < (l.filter np).length),Two w b (o+k * 2) (l.filter np)[k]:=by
 subst hj
 obtain ⟨h1,h2,_,_⟩:=h
 simp only [List.take_of_length_le (Nat.le_refl _)] at h1 h2
 exact ⟨h1,h2⟩
theorem HalfF.some {w:World} {b o j i:Nat} {l:List Rl} {np:Rl→Bool} (h:HalfF w b o l np j i) (hi:i≤l.length):∀ k,k < (l.length - i) * 2→(w.cell? ⟨b,o+i * 2+k,none⟩).isSome=true:=by
 intro k hk
 obtain ⟨s0,h0⟩:=h.all (i+k / 2) (by omega)
 have:=two_someR h0 (k % 2) (Nat.mod_lt _ (by decide))
 rwa [show o+(i+k / 2) * 2+k % 2=o+i * 2+k by omega] at this
set_option maxRecDepth 100000 in
set_option maxHeartbeats 8000000 in
theorem rl_DeleteFunc (b o cap:Nat) (l:List Rl) (w:World) (_:l.length≤1000) (hc:l.length≤cap) (hcm:cap≤9223372036854775807) (hb:b < w.heap.size)
  (hx:∀ j u,(l.flatMap Rl.cells)[j]? = some u→w.cell? ⟨b,o+j,none⟩=some u) (hf:∀ i,w.frozen? ⟨b,i,none⟩=false)
  (g:Nat) (cb:Array Value) (p:Rl→Bool) (eg:∀ args w,(callFunc g args).run Tryz.prog w=.ok (.enter g args) w)
  (hp:∀ x W,w.grownBy W (some b)→Calls Tryz.prog g (#[rv x]++cb) W fun e w'=>e=.returned (.bool (p x))∧Below W.heap.size W w') :
  Calls Tryz.prog 102 #[.slice (some ⟨b,o,none⟩) l.length cap,.func (.func g) #[] cb] w fun e w' =>
   e=.returned (.slice (some ⟨b,o,none⟩) (l.filter fun x => !p x).length cap)∧(∀ j u,((l.filter fun x => !p x).flatMap Rl.cells)[j]? = some u→w'.cell? ⟨b,o+j,none⟩=some u)∧w.grownBy w' (some b):=by
 have hmax:maxLen=9223372036854775807:=by decide
 have HX:=Lib.hid hx
 have HP:=Lib.hid hp
 have HF:=Lib.hid hf
 have IDX:=Lib.hid (rl_IndexFunc (.slice (some ⟨b,o,none⟩) l.length cap) l w (Sl.a ⟨flat_len _ _ Rl.cells_len _,by omega,.inr ⟨b,o,cap,rfl,hc,by omega,hb,hx⟩⟩) g cb p eg (fun x W _ hW=>hp x W (grown_of_below hW _)))
 clear hx hp hf
 go_enter Tryz.func102,Tryz.ntmps102
 go_wp2_with fail
 refine IDX.out.mono ?_
 rintro e w1 ⟨⟨i,rfl,hidx⟩,hb1⟩
 have HB1:=Lib.hid hb1
 rcases hidx with ⟨rfl,hno⟩ | ⟨k,hk,rfl,hyes,hbef⟩
 ·have R:=Lib.hid (show (l.filter fun x => !p x)=l by rw [List.filter_eq_self];intro x hx;rw [hno x hx];rfl)
  clear hno hb1
  go_wp2
  go_ret
  exact ⟨by rw [R.out];rfl,by rw [R.out];exact fun j u hu=>(HB1.out.cell (p:=⟨b,o+j,none⟩) hb).trans (HX.out j u hu),grown_of_below HB1.out _⟩
 ·have d1:((k:Int) == -1)=false:=by rw [beq_eq_false_iff_ne];omega
  have H0:=Lib.hid (HalfF.start (np:=fun x => !p x) (w:=w1) (b:=b) (o:=o) (fun j u hu=>(HB1.out.cell (p:=⟨b,o+j,none⟩) hb).trans (HX.out j u hu)) hk (by rw [hyes];rfl) (fun j hj hjk=>by rw [hbef j hj hjk];rfl))
  have F0:=Lib.hid (fun i=>(HB1.out.frozen (p:=⟨b,i,none⟩) hb).trans (HF.out i))
  have hb1s:b < w1.heap.size:=Nat.lt_of_lt_of_le hb HB1.out.size
  clear hyes hbef hb1
  go_wp2_with fail
  go_loopw [5,6] (fun iv jv wr => ∃ i j:Nat,i < j∧j≤l.length∧iv=.int .i64 i∧jv=.int .i64 j∧Hid (HalfF wr b o l (fun x => !p x) j i)∧Hid (w.grownBy wr (some b))∧Hid (∀ i,wr.frozen? ⟨b,i,none⟩=false)∧b < wr.heap.size) (fun _ jv _=>l.length - (intOf jv).toNat)
  case atStart=>exact ⟨k,k+1,by omega,by omega,rfl,by go_num,H0,Lib.hid (grown_of_below HB1.out _),F0,hb1s⟩
  case round =>
   obtain ⟨i,j,hij,hj,rfl,rfl,HH,HG,HFR,hbr⟩:=hrel
   by_cases hlt:j < l.length
   ·obtain ⟨p0,p1⟩:=HH.out.high j hlt (Nat.le_refl _)
    have hil:i < l.length:=by omega
    obtain ⟨s0,q0,q1⟩:=HH.out.all i hil
    have PC:=Lib.hid (fun W h=>HP.out l[j] W h)
    have YES:Hid (∀ W,HalfF W b o l (fun x => !p x) j i→p l[j]=false→HalfF (W2 W b (o+i * 2) l[j]) b o l (fun x => !p x) (j+1) (i+1)):=Lib.hid (fun W h e=>h.put hlt (by omega) (by rw [e];rfl))
    have NO:Hid (∀ W,HalfF W b o l (fun x => !p x) j i→p l[j]=true→HalfF W b o l (fun x => !p x) (j+1) i):=Lib.hid (fun W h e=>h.skip hlt (by rw [e];rfl))
    generalize p l[j]=px at PC YES NO
    generalize l[j]=x at *
    obtain ⟨x1,x2⟩:=x
    have HGA:=Lib.hid (gb_alloc HG.out (.cells #[.string x1,.string x2] 28))
    go_wp2_with fail
    refine (PC.out _ HGA.out).mono ?_
    rintro e w2 ⟨rfl,hb2a⟩
    have HBK:=Lib.hid (keep1 hb2a)
    have hb2:Below wr.heap.size wr w2:=((Below.refl _ _).alloc (Nat.le_refl _) _).trans (hb2a.mono (by simp))
    have HB2:=Lib.hid hb2
    obtain ⟨cx,fx,zx⟩:=HBK.out
    have hc2:=Lib.hid (fun i=>hb2.cell (p:=⟨b,i,none⟩) hbr)
    have f2:∀ i,w2.frozen? ⟨b,i,none⟩=false:=fun i=>(hb2.frozen (p:=⟨b,i,none⟩) hbr).trans (HFR.out i)
    have p0':=(hc2.out _).trans p0
    have p1':=(hc2.out _).trans p1
    have q0':=(hc2.out _).trans q0
    have q1':=(hc2.out _).trans q1
    have hbr2:b < w2.heap.size:=Nat.lt_of_lt_of_le hbr hb2.size
    have HG2:=Lib.hid (gb_trans HG.out (gb_of_below (r:=some b) hb2))
    have HM:=Lib.hid (HH.out.move hc2.out)
    clear hb2 hb2a p0 p1 q0 q1
    cases px with
    | true =>
     have R:=Lib.hid (NO.out _ HM.out rfl)
     go_wp2
     exact ⟨⟨i,j+1,by omega,by omega,rfl,by go_num,R,HG2,Lib.hid f2,hbr2⟩,by simp [intOf];omega⟩
    | false =>
     have R:=Lib.hid (YES.out _ HM.out rfl)
     go_wp2
     refine ⟨⟨i+1,j+1,by omega,by omega,by go_num,by go_num,Lib.hid ?_,Lib.hid ?_,Lib.hid ?_,?_⟩,by simp [intOf];omega⟩
     ·have h:=R.out
      unfold W2 at h
      with_reducible exact h
     ·have h:=grown_w9R (b:=b) (a:=o+i * 2) (s:=⟨x1,x2⟩) HG2.out
      unfold W2 at h
      with_reducible exact h
     ·intro i
      simpa using f2 i
     ·simpa using hbr2
   ·obtain ⟨hlen,hlow⟩:=HH.out.done (by omega)
    have HLEN:=Lib.hid hlen
    have HLOW:=Lib.hid hlow
    have hil:i < l.length:=by omega
    have hic:i < cap:=by omega
    obtain ⟨W',hW,hclr⟩:∃ W',W'=wr.setCells b (o+i * 2) (Builtin.zeroCells zeroRl.cells (l.length - i)).toList∧∀ ty,Sem.run Tryz.prog (Builtin.clear_ #[23] ty #[.slice (some ⟨b,o+i * 2,none⟩) (l.length - i) (cap - i)]) wr=.ok (.tuple #[]) W' :=
     ⟨_,rfl,fun ty=>run_clear2R wr _ 28 ty zeroRl Tryz.underlying23 rl_zero b (o+i * 2) (l.length - i) (cap - i) (by omega) rfl (HH.out.some (by omega)) (fun j=>HFR.out _) (zero_oneR _)⟩
    have HOUT:Hid (∀ k,k < o+i * 2→W'.cell? ⟨b,k,none⟩=wr.cell? ⟨b,k,none⟩):=Lib.hid (fun k hk=>by rw [hW];exact World.cell?_setCells_out b _ _ _ _ (fun _ _=>.inl hk))
    have HGW:Hid (w.grownBy W' (some b)):=Lib.hid (by rw [hW];exact grown_sets _ _ _ HG.out)
    clear hlen hlow hW
    go_wp2_with fail
    go_ret
    refine ⟨by rw [HLEN.out];rfl,?_,HGW.out⟩
    refine two_cellsR (fun k hk=>(HLOW.out k hk).drop1 (fun j h1 h2=>HOUT.out j ?_))
    have:=HLEN.out
    omega
set_option maxHeartbeats 1000000 in
theorem rl_DeleteNil (w:World) (g:Nat) (cb:Array Value) (eg:∀ args w,(callFunc g args).run Tryz.prog w=.ok (.enter g args) w) :
  Calls Tryz.prog 102 #[.slice none 0 0,.func (.func g) #[] cb] w fun e w'=>e=.returned (.slice none 0 0)∧Below w.heap.size w w':=by
 have IDX:=Lib.hid (rl_IndexFunc (.slice none 0 0) [] w (Sl.nil _ _).a g cb (fun _=>false) eg (fun x W hx _=>by cases hx))
 go_enter Tryz.func102,Tryz.ntmps102
 go_wp2_with fail
 refine IDX.out.mono ?_
 rintro e w1 ⟨⟨i,rfl,hidx⟩,hb1⟩
 have HB1:=Lib.hid hb1
 rcases hidx with ⟨rfl,_⟩ | ⟨k,hk,_⟩
 ·clear hb1
  go_wp2
  go_ret
  exact ⟨rfl,HB1.out⟩
 ·exact absurd hk (by simp)
end
section
open Go.RowKit Go.Shelf

theorem own_mono {w:World} {B B' size n:Nat} {e:TypeId} {v:Value} {xs:List Value} (h:w.ownsRow B e size v n xs) (hb:B'≤B):w.ownsRow B' e size v n xs:=by
 refine ⟨h.1,?_⟩
 rcases h.2 with h2 | ⟨g,cap,cur,h1,h2,h3⟩
 ·exact .inl h2
 ·exact .inr ⟨g,cap,cur,h1,Nat.le_trans hb h2,h3⟩
end
section
open Go.RowKit Go.Shelf

structure PolX (w:World) (v0 v1 v2 v3:Value) (l:List St) (g h:List Rl) (qs:List Qv) (F:Qv→List ByteArray) (PS NS:List ByteArray):Prop where
 at_:PolAt w v0 v1 v2 v3 l g h qs
 hl:l.length≤100
 hg:g.length≤100
 hh:h.length≤100
 hq:qs.length≤100
 hF:WhoF w qs F
 hs:allLe l 4294967
 hT:TB w
 eP:newB (allPrins l g h qs F)=PS
 eN:newB (allNames l g h qs)=NS
 hps:PS.length≤60
 hns:NS.length≤60
 rl:∀ s∈l,rightS s=true
 rP:∀ a∈PS,isP 65 90 (bl a)=true
 rN:∀ n∈NS,isP 97 122 (bl n)=true
theorem PolX.below {w w':World} {v0 v1 v2 v3:Value} {l:List St} {g h:List Rl} {qs:List Qv} {F:Qv→List ByteArray} {PS NS:List ByteArray} (P:PolX w v0 v1 v2 v3 l g h qs F PS NS) (hb:Below w.heap.size w w'):PolX w' v0 v1 v2 v3 l g h qs F PS NS :=
 ⟨P.at_.below hb,P.hl,P.hg,P.hh,P.hq,P.hF.below hb,P.hs,P.hT.below hb,P.eP,P.eN,P.hps,P.hns,P.rl,P.rP,P.rN⟩
section
variable {w:World} {v0 v1 v2 v3:Value} {l:List St} {g h:List Rl} {qs:List Qv} {F:Qv→List ByteArray} {PS NS:List ByteArray}
theorem PolX.ascP (P:PolX w v0 v1 v2 v3 l g h qs F PS NS):AscB PS:=by rw [← P.eP];exact new_asc _
theorem PolX.ascN (P:PolX w v0 v1 v2 v3 l g h qs F PS NS):AscB NS:=by rw [← P.eN];exact new_asc _
theorem PolX.idemP (P:PolX w v0 v1 v2 v3 l g h qs F PS NS):newB PS=PS:=by rw [← P.eP];exact new_idem _
theorem PolX.idemN (P:PolX w v0 v1 v2 v3 l g h qs F PS NS):newB NS=NS:=by rw [← P.eN];exact new_idem _
theorem PolX.putP (P:PolX w v0 v1 v2 v3 l g h qs F PS NS):newB (PS++[freshB PS])=putX PS:=by rw [new_snoc,P.idemP];rfl
theorem PolX.inAB (P:PolX w v0 v1 v2 v3 l g h qs F PS NS):∀ s∈l,InAB PS NS s:=fun s hs=>by
 have:=stmt_inAB (g:=g) (h:=h) (qs:=qs) (F:=F) hs
 rwa [P.eP,P.eN] at this
set_option maxRecDepth 100000 in
set_option maxHeartbeats 2000000 in
theorem high_Fresh (P:PolX w v0 v1 v2 v3 l g h qs F PS NS):Calls Tryz.prog 67 #[pv v0 v1 v2 v3] w fun e w'=>e=.returned (.string (freshB PS))∧Below w.heap.size w w':=by
 have PP:=Lib.hid (fun W (hb:Below w.heap.size w W)=>policy_Prins v0 v1 v2 v3 l g h qs W (P.at_.below hb) P.hl P.hg P.hh P.hq F (P.hF.below hb))
 rw [P.eP] at PP
 have HA:=Lib.hid P.ascP
 have ID:=Lib.hid P.idemP
 have hps:=P.hps
 obtain ⟨a0,c0,rfl⟩:=P.at_.rs.form
 obtain ⟨a1,c1,rfl⟩:=P.at_.rg.form
 obtain ⟨a2,c2,rfl⟩:=P.at_.rh.form
 obtain ⟨a3,c3,rfl⟩:=P.at_.rq.form
 have HT:=Lib.hid (show OneAt w #[.slice a0 l.length c0,.slice a1 g.length c1,.slice a2 h.length c2,.slice a3 qs.length c3] (w.alloc (.cells #[.slice a0 l.length c0,.slice a1 g.length c1,.slice a2 h.length c2,.slice a3 qs.length c3] 26)) from ⟨Blk.new w _ _,(Below.refl _ _).alloc (Nat.le_refl _) _⟩)
 clear P
 go_enter Tryz.func67,Tryz.ntmps67
 go_wp2_with fail
 refine (PP.out _ HT.out.low).mono ?_
 rintro e w1 ⟨vp,rfl,ho,_,hb1⟩
 obtain ⟨ao,co,rfl⟩:=own_form ho
 have HT:=Lib.hid (HT.out.later hb1)
 have HS:=Lib.hid (Sl.of_own ho)
 clear ho hb1 PP
 go_wp2_with fail
 refine (names_New (.slice ao PS.length co) PS _ HS.out.a (by omega)).mono ?_
 rintro e w2 ⟨b,rfl,ht,_,hb2⟩
 rw [ID.out] at ht
 have HT:=Lib.hid (HT.out.later hb2)
 have HTA:=Lib.hid ht
 clear ht hb2 HS ID
 go_wp2_with fail
 refine (names_Fresh1 b PS w2 HTA.out HA.out (by omega)).mono ?_
 rintro e w3 ⟨g3,c3',rfl,hs,hb3⟩
 have HT:=Lib.hid (HT.out.later hb3)
 obtain ⟨b4,o4,c4,he,hc4,hm4,hb4,hx4⟩:=hs.pos (by omega)
 simp only [Value.slice.injEq,Option.some.injEq,Addr.mk.injEq,true_and,and_true] at he
 obtain ⟨⟨rfl,rfl⟩,rfl⟩:=he
 have p0:=hx4 0 _ rfl
 simp only [Nat.add_zero] at p0
 clear hs hb3 hx4
 go_wp2
 go_ret
 exact ⟨rfl,HT.out.low⟩
set_option maxRecDepth 100000 in
set_option maxHeartbeats 4000000 in
theorem high_prins (P:PolX w v0 v1 v2 v3 l g h qs F PS NS):Calls Tryz.prog 183 #[pv v0 v1 v2 v3] w fun e w' => ∃ v,e=.returned v∧w'.ownsRow (w.heap.size+1) 9 1 v (putX PS).length (strs (putX PS))∧Below w.heap.size w w':=by
 have PP:=Lib.hid (fun W (hb:Below w.heap.size w W)=>policy_Prins v0 v1 v2 v3 l g h qs W (P.at_.below hb) P.hl P.hg P.hh P.hq F (P.hF.below hb))
 rw [P.eP] at PP
 have FR:=Lib.hid (fun W (hb:Below w.heap.size w W)=>high_Fresh (P.below hb))
 have ID:=Lib.hid P.putP
 have hps:=P.hps
 have hpx:=putX_len PS
 obtain ⟨a0,c0,rfl⟩:=P.at_.rs.form
 obtain ⟨a1,c1,rfl⟩:=P.at_.rg.form
 obtain ⟨a2,c2,rfl⟩:=P.at_.rh.form
 obtain ⟨a3,c3,rfl⟩:=P.at_.rq.form
 have HT:=Lib.hid (show OneAt w #[.slice a0 l.length c0,.slice a1 g.length c1,.slice a2 h.length c2,.slice a3 qs.length c3] (w.alloc (.cells #[.slice a0 l.length c0,.slice a1 g.length c1,.slice a2 h.length c2,.slice a3 qs.length c3] 26)) from ⟨Blk.new w _ _,(Below.refl _ _).alloc (Nat.le_refl _) _⟩)
 obtain ⟨infs,his,hs0,hs1,hs2⟩:=info_parts str_info
 have HIS:=Lib.hid his
 clear his P
 generalize putX PS=PX at *
 generalize freshB PS=x at *
 go_enter Tryz.func183,Tryz.ntmps183
 go_wp2_with fail
 refine wp_region_held_drew (S:=(fun W => ∀ o,W.cell? ⟨w.heap.size,o,none⟩=(#[.slice a0 l.length c0,.slice a1 g.length c1,.slice a2 h.length c2,.slice a3 qs.length c3]:Array Value)[o]?)) (by kernel_rfl) HT.out.drew.a.1 (fun hHeld=>?_)
 have HT:=HT.out.drew
 obtain ⟨wk,hwk⟩:∃ W,W=(w.alloc (.cells #[.slice a0 l.length c0,.slice a1 g.length c1,.slice a2 h.length c2,.slice a3 qs.length c3] 26)).drew:=⟨_,rfl⟩
 have hwz:w.heap.size+1≤wk.heap.size:=by rw [hwk];simp
 rw [← hwk] at HT hHeld ⊢
 clear hwk
 (refine hyes 0 ?_);(refine hyes 2 ?_);(try simp only [Act.put,List.setIfInBounds_toArray,List.set])
 (refine held_call 1 rfl (by kernel_rfl) (fun K hK=>?_);go_simp)
 go_at_call 70;refine (PP.out _ HT.low).mono ?_;rintro e w1 ⟨vp,rfl,ho,_,hb⟩;have HT1:=HT.later hb;obtain ⟨ao,co,hv⟩:=own_form ho;subst hv;clear PP
 (refine hK.out _ _ (HT1.a.1) (fun hHeld=>?_);clear hK K;(try simp only [Act.put,List.setIfInBounds_toArray,List.set]))
 (refine held_call 3 rfl (by kernel_rfl) (fun K hK=>?_);go_simp)
 go_at_call 67;refine (FR.out _ HT1.low).mono ?_;rintro e w2 ⟨rfl,hb2⟩;have HT2:=HT1.later hb2;have ho2:=own_below ho hb2;have hb3:=hb.trans (hb2.mono hb.size);clear FR ho hb hb2
 (refine hK.out _ _ (HT2.a.1) (fun hHeld=>?_);clear hK K;(try simp only [Act.put,List.setIfInBounds_toArray,List.set]))
 (refine held_call 4 rfl (by kernel_rfl) (fun K hK=>?_);go_simp)
 obtain ⟨wn,hwn⟩:∃ V,V=w2.alloc (.cells #[.string x] 9):=⟨_,rfl⟩
 obtain ⟨b8,hb8⟩:∃ b,b=w2.heap.size:=⟨_,rfl⟩
 rw [← hwn,← hb8]
 have hbq:Below w2.heap.size w2 wn:=by rw [hwn];exact (Below.refl _ _).alloc (Nat.le_refl _) _
 have Hc:Sl wn 1 (.slice (some ⟨b8,0,none⟩) 1 1) 1 (strs [x]):=by rw [hwn];exact Sl.new w2 [.string x] 9 1 1 b8 hb8 rfl (by simp [maxLen])
 have HT3:=HT2.later hbq
 have ho3:=own_below ho2 hbq
 have hb4:=hb3.trans (hbq.mono hb3.size)
 clear hbq hwn hb8 ho2 hb3
 (refine hK.out _ _ (HT3.a.1) (fun hHeld=>?_);clear hK K;(try simp only [Act.put,List.setIfInBounds_toArray,List.set]))
 refine held_call 5 rfl (by kernel_rfl) (fun K hK=>?_)
 refine step_row rfl _ _ 38 rfl wk.heap.size 9 infs _ 1 16 Tryz.underlying38 HIS.out hs0 hs1 hs2 (Nat.le_of_ble_eq_true rfl) rfl (Nat.le_of_ble_eq_true rfl) _ PS.length _ rfl ho3 _ 1 _ rfl Hc.a (strs_one _) (by omega) hb4.size ?_
 intro a5 c5 w5 ho5 hg5
 obtain ⟨ho6,hb6⟩:=push_txts (ms:=[x]) hb4 ho3 ho5 hg5
 have HT5:=HT.later hb6
 have HS:=Lib.hid (show Sl w5 1 (.slice a5 (PS.length+1) c5) (PS++[x]).length (strs (PS++[x])) by rw [List.length_append];exact Sl.of_own ho6)
 clear ho3 ho5 hg5 ho6 hb6 hb4 HT3 HT2 HT1
 (refine hK.out _ _ (HT5.a.1) (fun hHeld=>?_);clear hK K;(try simp only [Act.put,List.setIfInBounds_toArray,List.set]))
 (refine held_call 6 rfl (by kernel_rfl) (fun K hK=>?_);go_simp)
 go_at_call 132;refine (names_New _ (PS++[x]) w5 HS.out.a (by rw [List.length_append,List.length_singleton];omega)).mono ?_;rintro e w6 ⟨b,rfl,ht,_,hb⟩;rw [ID.out] at ht;have HT6:=HT5.later hb;have HTA:=Lib.hid ht;clear ht hb HT5
 (refine hK.out _ _ (HT6.a.1) (fun hHeld=>?_);clear hK K;(try simp only [Act.put,List.setIfInBounds_toArray,List.set]))
 (refine held_call 7 rfl (by kernel_rfl) (fun K hK=>?_);go_simp)
 go_at_call 54;refine (tab_All b PX w6 HTA.out (by omega)).mono ?_;rintro e w7 ⟨v7,rfl,ho7,hb⟩;have HT7:=HT6.later hb;have hz:=HT6.a.2.2;have HO7:=Lib.hid (show w7.ownsRow (w.heap.size+1) 9 1 v7 PX.length (strs PX) from own_mono ho7 (by omega));obtain ⟨av,cv,hv⟩:=own_form ho7;subst hv;clear ho7 hb HT6
 (refine hK.out _ _ (HT7.a.1) (fun hHeld=>?_);clear hK K;(try simp only [Act.put,List.setIfInBounds_toArray,List.set]))
 (refine hyes 8 ?_);(try simp only [Act.put,List.setIfInBounds_toArray,List.set])
 refine wpAnyH_done (by kernel_rfl) ?_ _
 have HT:=Lib.hid HT7
 clear HT7
 go_wp2
 go_ret
 exact ⟨_,rfl,HO7.out,HT.out.low⟩
set_option maxHeartbeats 1000000 in
theorem high_Roles1 (c:Nat) (u0 u1 u2 u3:Value) (g:List Rl) (x:Rl) (w:World) (hc:∀ o,w.cell? ⟨c,o,none⟩=(#[u0,u1,u2,u3]:Array Value)[o]?) (hg:SlA w 2 u1 g.length (g.flatMap Rl.cells)) :
  Calls Tryz.prog 248 #[rv x,.pointer (some ⟨c,0,none⟩)] w fun e w'=>e=.returned (.bool (hasR g x))∧Below w.heap.size w w':=by
 have H:=Lib.hid (fun W (hb:Below w.heap.size w W)=>policy_Has u1 g x W (hg.below hb))
 have hlt:c < w.heap.size:=World.block_lt_of_cell? w (u:=u0) _ (hc 0)
 have q1:=hc 1
 simp only [List.getElem?_toArray,List.getElem?_cons_succ,List.getElem?_cons_zero] at q1
 generalize hasR g x=r at H ⊢
 obtain ⟨bo,bc,hvb⟩:=hg.form
 subst hvb
 obtain ⟨x1,x2⟩:=x
 have HB:=Lib.hid ((Below.refl _ w).alloc (Nat.le_refl _) (.cells #[.string x1,.string x2] 28))
 clear hg hc
 go_enter Tryz.func248,Tryz.ntmps248
 go_wp2_with fail
 refine (H.out _ HB.out).mono ?_
 rintro e w1 ⟨rfl,hb1⟩
 have HB1:=Lib.hid (HB.out.trans (hb1.mono HB.out.size))
 clear hb1
 go_wp2
 go_ret
 exact ⟨rfl,HB1.out⟩
theorem allR_snoc {A B:List ByteArray} {k:Nat} (hk:k < A.length):allR (A.take (k+1)) B=allR (A.take k) B++B.map (fun n=>⟨A[k],n⟩):=by
 unfold allR
 rw [List.take_succ_eq_append_getElem hk,List.flatMap_append]
 simp
theorem memsX_snoc {R:List Rl} {A:List ByteArray} {k:Nat} (hk:k < R.length):memsX (R.take (k+1)) A=memsX (R.take k) A++A.map (memS R[k]):=by
 unfold memsX
 rw [List.take_succ_eq_append_getElem hk,List.flatMap_append]
 simp
theorem map_snocT {α β:Type} {B:List α} {f:α→β} {k:Nat} (hk:k < B.length):(B.take (k+1)).map f=(B.take k).map f++[f B[k]]:=by
 rw [List.take_succ_eq_append_getElem hk,List.map_append];rfl
theorem own_text {w:World} {B n:Nat} {a:Option Addr} {c:Nat} {xs:List ByteArray} (h:w.ownsRow B 9 1 (.slice a n c) n (strs xs)) {k:Nat} (hk:k < xs.length) (hn:n=xs.length) :
  ∃ b o,a=some ⟨b,o,none⟩∧w.cell? ⟨b,o+k,none⟩=some (.string xs[k])∧n≤c∧c≤9223372036854775807∧b < w.heap.size:=by
 obtain ⟨b,o,c',e,h1,h2,h3,h4⟩:=(Sl.of_own h).pos (by omega)
 simp only [Value.slice.injEq,true_and] at e
 obtain ⟨rfl,rfl⟩:=e
 exact ⟨b,o,rfl,h4 k _ (strs_get hk),h1,h2,h3⟩
set_option maxRecDepth 100000 in
set_option maxHeartbeats 8000000 in
theorem high_Roles (P:PolX w v0 v1 v2 v3 l g h qs F PS NS) (h6:PS.length≤16) (h4:NS.length≤12):Calls Tryz.prog 184 #[pv v0 v1 v2 v3] w fun e w' => ∃ v,e=.returned v∧Sl w' 2 v (rolesX PS NS g).length ((rolesX PS NS g).flatMap Rl.cells)∧Below w.heap.size w w':=by
 have hmax:maxLen=9223372036854775807:=by decide
 have eg:∀ args w,(callFunc 248 args).run Tryz.prog w=.ok (.enter 248 args) w:=enters_of Tryz.func248 (by kernel_rfl) rfl
 have PN:=Lib.hid (fun W (hb:Below w.heap.size w W)=>policy_Names v0 v1 v2 v3 l g h qs W (P.at_.below hb) P.hl P.hg P.hh P.hq)
 rw [P.eN] at PN
 have PR:=Lib.hid (fun W (hb:Below w.heap.size w W)=>high_prins (P.below hb))
 have hpx:=putX_len PS
 have HG:=Lib.hid (P.at_.rg)
 have RES:=Lib.hid (show (ordR (allR (putX PS) NS)).filter (fun r => !hasR g r)=rolesX PS NS g by unfold rolesX;rw [ord_filterR])
 obtain ⟨a0,c0,rfl⟩:=P.at_.rs.form
 obtain ⟨a1,c1,rfl⟩:=P.at_.rg.form
 obtain ⟨a2,c2,rfl⟩:=P.at_.rh.form
 obtain ⟨a3,c3,rfl⟩:=P.at_.rq.form
 have HT:=Lib.hid (show OneAt w #[.slice a0 l.length c0,.slice a1 g.length c1,.slice a2 h.length c2,.slice a3 qs.length c3] (w.alloc (.cells #[.slice a0 l.length c0,.slice a1 g.length c1,.slice a2 h.length c2,.slice a3 qs.length c3] 26)) from ⟨Blk.new w _ _,(Below.refl _ _).alloc (Nat.le_refl _) _⟩)
 have DF:=Lib.hid (fun W b cap (R:List Rl) (hlow:OneAt w #[.slice a0 l.length c0,.slice a1 g.length c1,.slice a2 h.length c2,.slice a3 qs.length c3] W) (hne:w.heap.size+1≤b) (hR:R.length≤1000) (hc:R.length≤cap) (hcm:cap≤9223372036854775807) (hbs:b < W.heap.size) hx hf =>
  rl_DeleteFunc b 0 cap R W hR hc hcm hbs hx hf 248 #[.pointer (some ⟨w.heap.size,0,none⟩)] (fun s=>hasR g s) eg (fun x V hV=>by
   have hV':OneAt w #[.slice a0 l.length c0,.slice a1 g.length c1,.slice a2 h.length c2,.slice a3 qs.length c3] V:=⟨hlow.a.grown hV (by intro e;cases e;omega),below_of_grownS hlow.low (by omega) hV⟩
   exact high_Roles1 w.heap.size _ (.slice a1 g.length c1) _ _ g x V hV'.a.1 (HG.out.below hV'.low)))
 have DN:=Lib.hid (fun W=>rl_DeleteNil W 248 #[.pointer (some ⟨w.heap.size,0,none⟩)] eg)
 clear P eg HG
 generalize putX PS=PX at *
 generalize rolesX PS NS g=RX at *
 have hp7:PX.length≤17:=by omega
 go_enter Tryz.func184,Tryz.ntmps184
 go_wp2_with fail
 refine (PR.out _ HT.out.low).mono ?_
 rintro e w1 ⟨vp,rfl,ho,hb1⟩
 obtain ⟨ao,co,rfl⟩:=own_form ho
 have HT:=Lib.hid (HT.out.later hb1)
 have HP:=Lib.hid ho
 clear ho hb1 PR
 go_wp2_with fail
 go_loopw [3,11] (fun vo i wr => ∃ (k:Nat) (rs:List Rl),k≤PX.length∧i=.int .i64 k∧Hid (rs=allR (PX.take k) NS)∧Hid (OneAt w #[.slice a0 l.length c0,.slice a1 g.length c1,.slice a2 h.length c2,.slice a3 qs.length c3] wr)∧Hid (wr.ownsRow (w.heap.size+1) 28 2 vo rs.length (rs.flatMap Rl.cells))∧Hid (∃ B,wr.ownsRow B 9 1 (.slice ao PX.length co) PX.length (strs PX))) (fun _ i _=>PX.length - (intOf i).toNat)
 case atStart=>exact ⟨0,[],by omega,rfl,Lib.hid rfl,HT,Lib.hid (World.ownsRow_nil _ _ _ _),Lib.hid ⟨_,HP.out⟩⟩
 case round =>
  clear HT HP
  obtain ⟨k,rs,hk,rfl,HE,HT,HO,HP⟩:=hrel
  obtain ⟨BP,hop⟩:=HP.out
  have HP:=Lib.hid hop
  obtain ⟨oo,oc,rfl⟩:=own_form HO.out
  obtain ⟨cs,fs,zs⟩:=HT.out.a
  have hrl:rs.length≤17 * 12:=by rw [HE.out,allR_len];exact Nat.mul_le_mul (by have:=List.length_take_le k PX;omega) h4
  by_cases hlt:k < PX.length
  ·obtain ⟨b1,o1,rfl,p0,hc1,hm1,hb1⟩:=own_text hop hlt rfl
   have HF:=Lib.hid (allR_snoc (B:=NS) hlt)
   clear hop
   generalize PX[k]=x at *
   go_wp2_with fail
   refine (PN.out _ HT.out.low).mono ?_
   rintro e w2 ⟨vn,rfl,hon,_,hb2⟩
   obtain ⟨an,cn,rfl⟩:=own_form hon
   have HT2:=Lib.hid (HT.out.later hb2)
   have HO2:=Lib.hid (own_below HO.out hb2)
   have HP2:=Lib.hid (own_below HP.out hb2)
   have HN2:=Lib.hid hon
   clear hon hb2 cs fs zs p0 HT HO HP
   go_wp2_with fail
   go_loopw [3,18] (fun vo i wr2 => ∃ (j:Nat) (ss:List Rl),j≤NS.length∧i=.int .i64 j∧Hid (ss=rs++(NS.take j).map (fun n=>⟨x,n⟩))∧Hid (OneAt w #[.slice a0 l.length c0,.slice a1 g.length c1,.slice a2 h.length c2,.slice a3 qs.length c3] wr2)∧Hid (wr2.ownsRow (w.heap.size+1) 28 2 vo ss.length (ss.flatMap Rl.cells))∧Hid (wr2.ownsRow BP 9 1 (.slice (some ⟨b1,o1,none⟩) PX.length co) PX.length (strs PX))∧Hid (wr2.ownsRow wr.heap.size 9 1 (.slice an NS.length cn) NS.length (strs NS))) (fun _ i _=>NS.length - (intOf i).toNat)
   case atStart=>exact ⟨0,rs,by omega,rfl,Lib.hid (by simp),HT2,HO2,HP2,HN2⟩
   case round =>
    clear HT2 HO2 HP2 HN2
    obtain ⟨j,ss,hj,rfl,HE2,HT,HO,HP,HN⟩:=hrel
    obtain ⟨oo,oc,rfl⟩:=own_form HO.out
    obtain ⟨cs,fs,zs⟩:=HT.out.a
    have hsl:ss.length≤rs.length+12:=by rw [HE2.out,List.length_append,List.length_map];have:=List.length_take_le j NS;omega
    by_cases hlt2:j < NS.length
    ·obtain ⟨b2,o2,rfl,p0,hc2,hm2,hb2⟩:=own_text HN.out hlt2 rfl
     have HF2:=Lib.hid (map_snocT (f:=fun n=>(⟨x,n⟩:Rl)) hlt2)
     generalize NS[j]=y at *
     go_wp2_with (at_builtin;refine halt_ ?_)
     unfold Halt_
     refine app_own Tryz.underlying23 rl_info' rfl (by decide) (by decide) rfl _ _ rfl (w.heap.size+1) rfl (HO.out.alloc _) [.string x,.string y] rfl (heap_new1 _ _) rfl (rlc_one ⟨x,y⟩) ?_ ?_ ?_
     ·omega
     ·have:=HT.out.a.2.2;simp;omega
     intro a' cap' w3 hown' hgrow
     obtain ⟨q1,q2⟩:=push_at Rl.cells (x:=⟨x,y⟩) HT.out HO.out hown' hgrow
     have HP3:=Lib.hid (own_far (HP.out.alloc _) (HO.out.alloc _) hgrow (by decide))
     have HN3:=Lib.hid (own_far (HN.out.alloc _) (HO.out.alloc _) hgrow (by decide))
     have HO3:=Lib.hid q1
     have HT3:=Lib.hid q2
     clear hown' hgrow q1 q2 cs fs zs p0
     go_wp2_with fail
     exact ⟨⟨j+1,ss++[⟨x,y⟩],by omega,by go_num,Lib.hid (by rw [HF2.out,HE2.out];simp),HT3,HO3,HP3,HN3⟩,by simp [intOf];omega⟩
    ·have HES:=Lib.hid (show ss=allR (PX.take (k+1)) NS by rw [HF.out,HE2.out,HE.out,List.take_of_length_le (show NS.length≤j by omega)])
     go_wp2_with fail
     exact ⟨⟨k+1,ss,by omega,by go_num,HES,HT,HO,Lib.hid ⟨_,HP.out⟩⟩,by simp [intOf];omega⟩
  ·have HES:=Lib.hid (show rs=allR PX NS by rw [HE.out,List.take_of_length_le (show PX.length≤k by omega)])
   have HS:=Lib.hid (Sl.of_own HO.out)
   go_wp2_with fail
   refine (pol_SortRoles (.slice oo rs.length oc) rs wr HS.out.a (by omega)).mono ?_
   rintro e w4 ⟨v4,rfl,ho4,hb4⟩
   have HT4:=Lib.hid (HT.out.later hb4)
   have hrl4:=ord_lenR rs
   unfold ordR at hrl4
   rw [HES.out] at ho4 hrl4
   have hrx:=RES.out
   unfold ordR at hrx
   have hz:=HT.out.a.2.2
   clear HT HO HP HS
   rcases ho4 with ⟨rfl,h0⟩ | ⟨gg,cap,rfl,q1,q2,q3,q4,q5,q6⟩
   ·have F:=Lib.hid (show RX=[] by rw [← hrx,h0];rfl)
    clear hb4 h0 hrx hrl4 DF cs fs zs
    obtain ⟨cs,fs,zs⟩:=HT4.out.a
    go_wp2_with fail
    refine (DN.out _).mono ?_
    rintro e w5 ⟨rfl,hb5⟩
    have HB5:=Lib.hid (HT4.out.later hb5)
    clear hb5
    go_wp2
    go_ret
    exact ⟨_,rfl,by rw [F.out];exact Sl.nil _ _,HB5.out.low⟩
   ·have D:=Lib.hid (DF.out w4 gg cap _ HT4.out (by omega) (by rw [← HES.out] at hrl4 ⊢;omega) q3 q4 q2 q5 q6)
    have hmc:RX.length≤cap:=by rw [← hrx];exact Nat.le_trans (List.length_filter_le _ _) q3
    rw [hrx] at D
    have hlen:=Lib.hid (show (insAllR [] (allR PX NS)).length=(insAllR [] (allR PX NS)).length from rfl)
    generalize insAllR [] (allR PX NS)=SR at *
    clear hb4 hrx hrl4 DF DN cs fs zs q5 q6
    obtain ⟨cs,fs,zs⟩:=HT4.out.a
    go_wp2_with fail
    refine D.out.mono ?_
    rintro e w5 ⟨rfl,hx,hg2⟩
    have HX:=Lib.hid hx
    have HG:=Lib.hid hg2
    clear hx hg2
    go_wp2
    go_ret
    exact ⟨_,rfl,⟨flat_len _ _ Rl.cells_len _,by omega,.inr ⟨gg,0,cap,rfl,hmc,by omega,Nat.lt_of_lt_of_le q2 HG.out.size,HX.out⟩⟩,below_of_grownS HT4.out.low (by omega) HG.out⟩
set_option maxRecDepth 100000 in
set_option maxHeartbeats 8000000 in
theorem high_Maximal (P:PolX w v0 v1 v2 v3 l g h qs F PS NS) (h6:PS.length≤16) (h4:NS.length≤12):Calls Tryz.prog 107 #[pv v0 v1 v2 v3] w fun e w' => ∃ v,e=.returned v∧Sl w' 9 v (maxS l g PS NS).length ((maxS l g PS NS).flatMap St.cells)∧Below w.heap.size w w':=by
 have RO:=Lib.hid (fun W (hb:Below w.heap.size w W)=>high_Roles (P.below hb) h6 h4)
 have PR:=Lib.hid (fun W (hb:Below w.heap.size w W)=>high_prins (P.below hb))
 have hpx:=putX_len PS
 have HL:=Lib.hid P.at_.rs
 have hl:=P.hl
 have hrx:(rolesX PS NS g).length≤17 * 12:=Nat.le_trans (rolesX_len PS NS g) (Nat.mul_le_mul (by omega) h4)
 have RES:=Lib.hid (show ord (l++memsX (rolesX PS NS g) (putX PS))=maxS l g PS NS from rfl)
 obtain ⟨a0,c0,rfl⟩:=P.at_.rs.form
 obtain ⟨a1,c1,rfl⟩:=P.at_.rg.form
 obtain ⟨a2,c2,rfl⟩:=P.at_.rh.form
 obtain ⟨a3,c3,rfl⟩:=P.at_.rq.form
 have HT:=Lib.hid (show OneAt w #[.slice a0 l.length c0,.slice a1 g.length c1,.slice a2 h.length c2,.slice a3 qs.length c3] (w.alloc (.cells #[.slice a0 l.length c0,.slice a1 g.length c1,.slice a2 h.length c2,.slice a3 qs.length c3] 26)) from ⟨Blk.new w _ _,(Below.refl _ _).alloc (Nat.le_refl _) _⟩)
 clear P
 generalize putX PS=PX at *
 generalize rolesX PS NS g=RX at *
 have hp7:PX.length≤17:=by omega
 generalize maxS l g PS NS=ms at *
 go_enter Tryz.func107,Tryz.ntmps107
 go_wp2_with fail
 refine (PR.out _ HT.out.low).mono ?_
 rintro e w1 ⟨vp,rfl,ho,hb1⟩
 obtain ⟨ao,co,rfl⟩:=own_form ho
 have HT:=Lib.hid (HT.out.later hb1)
 have HP:=Lib.hid ho
 clear ho hb1 PR
 obtain ⟨cs,fs,zs⟩:=HT.out.a
 go_wp2_with fail
 refine (RO.out _ HT.out.low).mono ?_
 rintro e w2 ⟨vr,rfl,hsr,hb2⟩
 obtain ⟨ar,cr,rfl⟩:=hsr.form
 have HP:=Lib.hid (own_below HP.out hb2)
 have HT:=Lib.hid (HT.out.later hb2)
 have HR:=Lib.hid hsr
 clear hsr hb2 RO cs fs zs
 go_wp2_with fail
 have hzw:w.heap.size≤w2.heap.size:=HT.out.low.size
 go_loopw [3,14] (fun vo i wr => ∃ (k:Nat) (rs:List St),k≤RX.length∧i=.int .i64 k∧Hid (rs=memsX (RX.take k) PX)∧Hid (Below w2.heap.size w2 wr)∧Hid (wr.ownsRow w2.heap.size 74 9 vo rs.length (rs.flatMap St.cells))) (fun _ i _=>RX.length - (intOf i).toNat)
 case atStart=>exact ⟨0,[],by omega,rfl,Lib.hid rfl,Lib.hid (Below.refl _ _),Lib.hid (World.ownsRow_nil _ _ _ _)⟩
 case round =>
  obtain ⟨k,rs,hk,rfl,HE,HB,HO⟩:=hrel
  obtain ⟨oo,oc,rfl⟩:=own_form HO.out
  have hrl:rs.length≤204 * 17:=by rw [HE.out,memsX_len];exact Nat.mul_le_mul (by have:=List.length_take_le k RX;omega) hp7
  by_cases hlt:k < RX.length
  ·obtain ⟨b1,o1,e1,he1,hc1,hm1',hb1,hx1⟩:=(HR.out.below HB.out).pos (by omega)
   simp only [Value.slice.injEq,true_and] at he1
   obtain ⟨rfl,rfl⟩:=he1
   obtain ⟨p0,p1⟩:=rl_cell hx1 k hlt
   have HF:=Lib.hid (memsX_snoc (A:=PX) hlt)
   clear hx1
   generalize RX[k]=x at *
   obtain ⟨x1,x2⟩:=x
   have HB2:=Lib.hid (HB.out.alloc HB.out.size (.cells #[.string x1,.string x2] 28))
   have HO2:=Lib.hid (HO.out.alloc (.cells #[.string x1,.string x2] 28))
   have HX2:=Lib.hid (show CAt (wr.alloc (.cells #[.string x1,.string x2] 28)) wr.heap.size #[.string x1,.string x2] 28 from heap_new1 _ _)
   go_wp2_with fail
   go_loopw [3,20] (fun vo i wr2 => ∃ (j:Nat) (ss:List St),j≤PX.length∧i=.int .i64 j∧Hid (ss=rs++(PX.take j).map (memS ⟨x1,x2⟩))∧Hid (Below w2.heap.size w2 wr2)∧Hid (wr2.ownsRow w2.heap.size 74 9 vo ss.length (ss.flatMap St.cells))∧Hid (CAt wr2 wr.heap.size #[.string x1,.string x2] 28)) (fun _ i _=>PX.length - (intOf i).toNat)
   case atStart=>exact ⟨0,rs,by omega,rfl,Lib.hid (by simp),HB2,HO2,HX2⟩
   case round =>
    clear HB2 HO2 HX2
    obtain ⟨j,ss,hj,rfl,HE2,HB,HO,HX⟩:=hrel
    obtain ⟨oo,oc,rfl⟩:=own_form HO.out
    obtain ⟨cs,fs,zs⟩:=HX.out.blk
    have hsl:ss.length≤rs.length+17:=by rw [HE2.out,List.length_append,List.length_map];have:=List.length_take_le j PX;omega
    by_cases hlt2:j < PX.length
    ·obtain ⟨b2,o2,rfl,q0,hc2,hm2,hb2⟩:=own_text (own_below HP.out HB.out) hlt2 rfl
     have HF2:=Lib.hid (map_snocT (f:=memS ⟨x1,x2⟩) hlt2)
     generalize PX[j]=y at *
     go_wp2_with (at_builtin;refine halt_ ?_)
     unfold Halt_
     refine app_own Tryz.underlying22 st_info rfl (by decide) (by decide) rfl _ _ rfl w2.heap.size rfl (HO.out.alloc _) [.int .i64 1,.string x1,.string x2,.string y,.string emp,.string emp,.string emp,.string emp,.string emp] rfl (heap_new1 _ _) rfl (st1s _ _ _ _ _ _ _ _ _) ?_ ?_ ?_
     ·omega
     ·have:=HB.out.size;simp;omega
     intro a' cap' w3 hown' hgrow
     have HX3:=Lib.hid ((HX.out.alloc _).grown (HO.out.alloc _) hgrow (by decide))
     have HB3:=Lib.hid (below_own (HB.out.alloc HB.out.size _) (HO.out.alloc _) hgrow (HB.out.alloc HB.out.size (.cells #[.int .i64 1,.string x1,.string x2,.string y,.string emp,.string emp,.string emp,.string emp,.string emp] 74)).size (Nat.le_refl _))
     have HO3:=Lib.hid (show w3.ownsRow w2.heap.size 74 9 (.slice a' (ss.length+1) cap') (ss++[memS ⟨x1,x2⟩ y]).length ((ss++[memS ⟨x1,x2⟩ y]).flatMap St.cells) by rw [List.length_append,List.flatMap_append];exact hown')
     clear hown' hgrow cs fs zs q0
     go_wp2_with fail
     exact ⟨⟨j+1,ss++[memS ⟨x1,x2⟩ y],by omega,by go_num,Lib.hid (by rw [HF2.out,HE2.out];simp),HB3,HO3,HX3⟩,by simp [intOf];omega⟩
    ·have HES:=Lib.hid (show ss=memsX (RX.take (k+1)) PX by rw [HF.out,HE2.out,HE.out,List.take_of_length_le (show PX.length≤j by omega)])
     go_wp2_with fail
     exact ⟨⟨k+1,ss,by omega,by go_num,HES,HB,HO⟩,by simp [intOf];omega⟩
  ·have HES:=Lib.hid (show rs=memsX RX PX by rw [HE.out,List.take_of_length_le (show RX.length≤k by omega)])
   have HS:=Lib.hid (Sl.of_own HO.out)
   have HT:=Lib.hid (HT.out.later HB.out)
   obtain ⟨cs,fs,zs⟩:=HT.out.a
   have HLw:=Lib.hid (HL.out.below HT.out.low)
   go_wp2_with fail
   refine (state_Union (.slice a0 l.length c0) (.slice oo rs.length oc) l rs wr HLw.out HS.out.a (by omega) (by omega)).mono ?_
   rintro e w4 ⟨v4,rfl,hs4,hb4⟩
   rw [HES.out,RES.out] at hs4
   obtain ⟨a4,c4',rfl⟩:=hs4.form
   have HT:=Lib.hid (HT.out.later hb4)
   have HS4:=Lib.hid hs4
   clear hs4 hb4 cs fs zs
   go_wp2
   go_ret
   exact ⟨_,rfl,HS4.out,HT.out.low⟩
end
end
section
open Go.RowKit Go.Shelf

section
variable {w:World} {v0 v1 v2 v3:Value} {l:List St} {g h:List Rl} {qs:List Qv} {F:Qv→List ByteArray} {PS NS:List ByteArray}
set_option maxRecDepth 100000 in
set_option maxHeartbeats 4000000 in
theorem high_Eval (P:PolX w v0 v1 v2 v3 l g h qs F PS NS) (h6:PS.length≤16) (h4:NS.length≤12) :
  Calls Tryz.prog 69 #[pv v0 v1 v2 v3] w fun e w' => ∃ t M fs st,e=.returned (.tuple #[.pointer (some ⟨t,0,none⟩),.pointer (some ⟨M,0,none⟩)])∧TmAt w' t M (putX PS) NS (maxS l g PS NS) fs st∧Below w.heap.size w w':=by
 have HT0:=Lib.hid (show OneAt w #[v0,v1,v2,v3] (w.alloc (.cells #[v0,v1,v2,v3] 26)) from ⟨Blk.new w _ _,(Below.refl _ _).alloc (Nat.le_refl _) _⟩)
 have TF:=Lib.hid (fun vm more W (hb:Below w.heap.size w W) (hm:SlA W 1 vm more.length (strs more)) hml=>table_For v0 v1 v2 v3 vm l g h qs more W (P.at_.below hb) P.hl P.hg P.hh P.hq F (P.hF.below hb) hm hml)
 rw [P.eP,P.eN,P.idemN] at TF
 have FR:=Lib.hid (fun W (hb:Below w.heap.size w W)=>high_Fresh (P.below hb))
 have MN:=Lib.hid (fun W (hb:Below w.heap.size w W)=>high_Maximal (P.below hb) h6 h4)
 have HTB:=Lib.hid P.hT
 have EP:=Lib.hid P.putP
 have hml:=maxS_len l g PS NS
 have hl:=P.hl
 have hmn:(PS.length+1) * (PS.length+1) * NS.length≤17 * 17 * 12:=Nat.mul_le_mul (Nat.mul_le_mul (by omega) (by omega)) h4
 have hms:Hid (allLe (maxS l g PS NS) 4294967):=Lib.hid (maxS_le P.hs P.rP P.rN P.hps)
 have hpx:=putX_len PS
 obtain ⟨a0,c0,rfl⟩:=P.at_.rs.form
 obtain ⟨a1,c1,rfl⟩:=P.at_.rg.form
 obtain ⟨a2,c2,rfl⟩:=P.at_.rh.form
 obtain ⟨a3,c3,rfl⟩:=P.at_.rq.form
 clear P
 generalize maxS l g PS NS=ms at *
 generalize putX PS=PX at *
 generalize freshB PS=x at *
 have hrl:=rulesN_len PX NS ms
 go_enter Tryz.func69,Tryz.ntmps69
 go_wp2_with fail
 refine wp_region_held_drew (S:=(fun W => ∀ o,W.cell? ⟨w.heap.size,o,none⟩=(#[.slice a0 l.length c0,.slice a1 g.length c1,.slice a2 h.length c2,.slice a3 qs.length c3]:Array Value)[o]?)) (by kernel_rfl) HT0.out.drew.a.1 (fun hHeld=>?_)
 have HT:=HT0.out.drew
 obtain ⟨wk,hwk⟩:∃ W,W=(w.alloc (.cells #[.slice a0 l.length c0,.slice a1 g.length c1,.slice a2 h.length c2,.slice a3 qs.length c3] 26)).drew:=⟨_,rfl⟩
 rw [← hwk] at HT hHeld ⊢
 clear hwk HT0
 (refine hyes 0 ?_);(refine hyes 1 ?_);(try simp only [Act.put,List.setIfInBounds_toArray,List.set])
 (refine held_call 2 rfl (by kernel_rfl) (fun K hK=>?_);go_simp)
 go_at_call 67;refine (FR.out _ HT.low).mono ?_;rintro e w2 ⟨rfl,hb2⟩;have HT:=HT.later hb2;clear FR hb2
 (refine hK.out _ _ (HT.a.1) (fun hHeld=>?_);clear hK K;(try simp only [Act.put,List.setIfInBounds_toArray,List.set]))
 (refine held_call 3 rfl (by kernel_rfl) (fun K hK=>?_);go_simp)
 obtain ⟨wn,hwn⟩:∃ V,V=w2.alloc (.cells #[.string x] 9):=⟨_,rfl⟩
 obtain ⟨b8,hb8⟩:∃ b,b=w2.heap.size:=⟨_,rfl⟩
 rw [← hwn,← hb8]
 have hbq:Below w2.heap.size w2 wn:=by rw [hwn];exact (Below.refl _ _).alloc (Nat.le_refl _) _
 have Hc:Sl wn 1 (.slice (some ⟨b8,0,none⟩) 1 1) 1 (strs [x]):=by rw [hwn];exact Sl.new w2 [.string x] 9 1 1 b8 hb8 rfl (by simp [maxLen])
 have HT:=HT.later hbq
 clear hbq hwn hb8
 (refine hK.out _ _ (HT.a.1) (fun hHeld=>?_);clear hK K;(try simp only [Act.put,List.setIfInBounds_toArray,List.set]))
 (refine held_call 4 rfl (by kernel_rfl) (fun K hK=>?_);go_simp)
 go_at_call 121;refine (TF.out _ [x] _ HT.low Hc.a (by simp)).mono ?_;rintro e w4 ⟨t,ba,bb,rfl,ht,hb4⟩;rw [EP.out] at ht;have HT:=HT.later hb4;have HTb:=Lib.hid ht;clear ht hb4 TF Hc EP
 (refine hK.out _ _ (HT.a.1) (fun hHeld=>?_);clear hK K;(try simp only [Act.put,List.setIfInBounds_toArray,List.set]))
 (refine hyes 5 ?_);(try simp only [Act.put,List.setIfInBounds_toArray,List.set])
 refine wpAnyH_done (by kernel_rfl) ?_ _
 have HT1:=Lib.hid HT
 clear HT
 go_wp2_with fail
 refine wp_region_held_drew (S:=(fun W => ∀ o,W.cell? ⟨w.heap.size,o,none⟩=(#[.slice a0 l.length c0,.slice a1 g.length c1,.slice a2 h.length c2,.slice a3 qs.length c3]:Array Value)[o]?)) (by kernel_rfl) HT1.out.drew.a.1 (fun hHeld=>?_)
 have HT:=HT1.out.drew
 have HTb:=Lib.hid (HTb.out.below (below_drew (Below.refl _ w4)))
 obtain ⟨wk,hwk⟩:∃ W,W=w4.drew:=⟨_,rfl⟩
 rw [← hwk] at HT HTb hHeld ⊢
 clear hwk HT1
 (refine hyes 0 ?_);(refine hyes 1 ?_);(refine hyes 4 ?_);(refine hyes 7 ?_);(refine hyes 8 ?_);(try simp only [Act.put,List.setIfInBounds_toArray,List.set])
 (refine held_call 2 rfl (by kernel_rfl) (fun K hK=>?_);go_simp)
 go_at_call 53;refine (table_Prins HTb.out).mono ?_;rintro e w2 ⟨rfl,rfl⟩
 (refine hK.out _ _ (HT.a.1) (fun hHeld=>?_);clear hK K;(try simp only [Act.put,List.setIfInBounds_toArray,List.set]))
 (refine held_call 3 rfl (by kernel_rfl) (fun K hK=>?_);go_simp)
 go_at_call 130;refine (tab_Len ba PX _ HTb.out.ta).mono ?_;rintro e w2 ⟨rfl,rfl⟩
 (refine hK.out _ _ (HT.a.1) (fun hHeld=>?_);clear hK K;(try simp only [Act.put,List.setIfInBounds_toArray,List.set]))
 (refine held_call 5 rfl (by kernel_rfl) (fun K hK=>?_);go_simp)
 go_at_call 56;refine (table_Links HTb.out).mono ?_;rintro e w2 ⟨rfl,rfl⟩
 (refine hK.out _ _ (HT.a.1) (fun hHeld=>?_);clear hK K;(try simp only [Act.put,List.setIfInBounds_toArray,List.set]))
 (refine held_call 6 rfl (by kernel_rfl) (fun K hK=>?_);go_simp)
 go_at_call 130;refine (tab_Len bb NS _ HTb.out.tb).mono ?_;rintro e w2 ⟨rfl,rfl⟩
 (refine hK.out _ _ (HT.a.1) (fun hHeld=>?_);clear hK K;(try simp only [Act.put,List.setIfInBounds_toArray,List.set]))
 (refine held_call 9 rfl (by kernel_rfl) (fun K hK=>?_);go_simp)
 go_at_call 107;refine (MN.out _ HT.low).mono ?_;rintro e w3 ⟨v3,rfl,hs3,hb3⟩;have HT3:=HT.later hb3;have HTb3:=Lib.hid (HTb.out.below hb3);have HS3:=Lib.hid hs3;clear hs3 hb3
 (refine hK.out _ _ (HT3.a.1) (fun hHeld=>?_);clear hK K;(try simp only [Act.put,List.setIfInBounds_toArray,List.set]))
 (refine held_call 10 rfl (by kernel_rfl) (fun K hK=>?_);go_simp)
 go_at_call 157;refine (table_Rules v3 ms _ HTb3.out HS3.out.a hms.out (by omega)).mono ?_;rintro e w4 ⟨v4,rfl,ho4,hb4⟩;have HT4:=HT3.later hb4;have HTb4:=Lib.hid (HTb3.out.below hb4);have HS4:=Lib.hid (Sl.of_own ho4);clear ho4 hb4
 (refine hK.out _ _ (HT4.a.1) (fun hHeld=>?_);clear hK K;(try simp only [Act.put,List.setIfInBounds_toArray,List.set]))
 (refine held_call 11 rfl (by kernel_rfl) (fun K hK=>?_);go_simp)
 go_at_call 156;refine (sem_Eval PX.length NS.length v4 (rulesN PX NS ms) _ (by omega) (by omega) HS4.out.a (by omega) (HTB.out.below HT4.low)).mono ?_;rintro e w5 ⟨M,F5,W05,g05,fs,st,rfl,hm,hlst,hst,hb5⟩;have HT5:=HT4.later hb5;have HTb5:=Lib.hid (HTb4.out.below hb5);have HM5:=Lib.hid hm;have HL5:=Lib.hid hlst;have HS5:=Lib.hid hst;clear hm hlst hst hb5
 (refine hK.out _ _ (HT5.a.1) (fun hHeld=>?_);clear hK K;(try simp only [Act.put,List.setIfInBounds_toArray,List.set]))
 (refine hyes 12 ?_);(refine hyes 13 ?_);(try simp only [Act.put,List.setIfInBounds_toArray,List.set])
 refine wpAnyH_done (by kernel_rfl) ?_ _
 have HT:=Lib.hid HT5
 clear HT5
 go_wp2
 go_ret2
 exact ⟨t,M,fs,st,rfl,⟨⟨ba,bb,HTb5.out⟩,⟨F5,W05,g05,HM5.out⟩,HL5.out,HS5.out⟩,HT.out.low⟩
end
end
section
open Go.RowKit Go.Shelf

theorem least_ex (l:List St):∃ ps:List Pr,LeastS l (fun r x=>(r,x)∈ps):=by
 obtain ⟨cand,hcand⟩:∃ c:List Pr,c=l.flatMap (fun s=>l.map (fun t=>(s.h,t.who))):=⟨_,rfl⟩
 have cm:∀ r x,(r,x)∈cand↔(∃ s∈l,s.h=r)∧∃ t∈l,t.who=x:=by
  intro r x
  rw [hcand,List.mem_flatMap]
  constructor
  ·rintro ⟨s,hs,h⟩
   obtain ⟨t,ht,e⟩:=List.mem_map.1 h
   simp only [Prod.mk.injEq] at e
   exact ⟨⟨s,hs,e.1⟩,⟨t,ht,e.2⟩⟩
  ·rintro ⟨⟨s,hs,rfl⟩,⟨t,ht,rfl⟩⟩
   exact ⟨s,hs,List.mem_map.2 ⟨t,ht,rfl⟩⟩
 have hC:CloS l (fun r x=>(r,x)∈cand) :=
  ⟨fun s hs _=>(cm _ _).2 ⟨⟨s,hs,rfl⟩,⟨s,hs,rfl⟩⟩,fun s hs _ x h=>(cm _ _).2 ⟨⟨s,hs,rfl⟩,((cm _ _).1 h).2⟩,fun s hs _ x y _ h=>(cm _ _).2 ⟨⟨s,hs,rfl⟩,((cm _ _).1 h).2⟩,fun s hs _ x h _=>(cm _ _).2 ⟨⟨s,hs,rfl⟩,((cm _ _).1 h).2⟩⟩
 have hP:∀ r x,(r,x)∈cand.filter (fun p => @decide (∀ E,CloS l E→E p.1 p.2) (Classical.propDecidable _))↔∀ E,CloS l E→E r x:=by
  intro r x
  rw [List.mem_filter]
  constructor
  ·rintro ⟨_,h⟩
   exact @of_decide_eq_true _ (Classical.propDecidable _) h
  ·intro h
   exact ⟨h _ hC,@decide_eq_true _ (Classical.propDecidable _) h⟩
 refine ⟨_,⟨fun s hs hk=>?_,fun s hs hk x h=>?_,fun s hs hk x y h1 h2=>?_,fun s hs hk x h1 h2=>?_⟩,fun E hE r x h=>(hP r x).1 h E hE⟩
 ·exact (hP _ _).2 (fun E hE=>hE.mem s hs hk)
 ·exact (hP _ _).2 (fun E hE=>hE.incl s hs hk x ((hP _ _).1 h E hE))
 ·exact (hP _ _).2 (fun E hE=>hE.link s hs hk x y ((hP _ _).1 h1 E hE) ((hP _ _).1 h2 E hE))
 ·exact (hP _ _).2 (fun E hE=>hE.both s hs hk x ((hP _ _).1 h1 E hE) ((hP _ _).1 h2 E hE))
theorem members_mono {l m:List St} {ps qs:List Pr} (h:LeastS l (fun r x=>(r,x)∈ps)) (g:LeastS m (fun r x=>(r,x)∈qs)) (hs:∀ s∈l,s∈m) (r:Rl):insideB (membersP ps r) (membersP qs r)=true:=by
 unfold insideB
 rw [List.all_eq_true]
 intro x hx
 rw [hasB_mem,membersP_mem]
 exact h.mono g hs r x (membersP_mem.1 hx)
end
section
open Go.RowKit Go.Shelf

end
section
open Go.RowKit Go.Shelf

abbrev dv (v0 v1 v2 v3 v4 v5:Value):Value:=.agg #[v0,v1,v2,v3,v4,v5]
end
section
open Go.RowKit Go.Shelf

end
section
open Go.RowKit Go.Shelf

end
section
open Go.RowKit Go.Shelf

set_option maxRecDepth 100000 in
set_option maxHeartbeats 1000000 in
theorem ref1_SameT (va vb:Value) (l:List ByteArray) (w:World) (ha:SlA w 1 va l.length (strs l)) (hb:SlA w 1 vb l.length (strs l)) :
  Calls Tryz.prog 52 #[va,vb] w fun e w'=>e=.returned (.bool true)∧∃ n,w'=w.drewN n:=by
 have hmax:=ha.max
 have hne:((l.length:Int) != (l.length:Int))=false:=by simp
 by_cases h0:0 < l.length
 ·obtain ⟨b1,o1,c1,rfl,hc1,hm1,_,hx1⟩:=ha.pos h0
  obtain ⟨b2,o2,c2,rfl,hc2,hm2,_,hx2⟩:=hb.pos h0
  have HX1:=Lib.hid hx1
  have HX2:=Lib.hid hx2
  clear ha hb hx1 hx2
  go_enter Tryz.func52,Tryz.ntmps52
  go_wp2
  go_loopw [13] (fun i wr => ∃ k n:Nat,k≤l.length∧i=.int .i64 k∧wr=w.drewN n) (fun i _=>l.length - (intOf i).toNat)
  case atStart=>exact ⟨0,0,by omega,rfl,rfl⟩
  case round =>
   obtain ⟨k,n,hk,rfl,rfl⟩:=hrel
   by_cases hlt:k < l.length
   ·have p0:=HX1.out k _ (strs_get hlt)
    have q0:=HX2.out k _ (strs_get hlt)
    go_wp2_with fail
    go_quiet (fail)
    go_wp2
    exact ⟨⟨k+1,n+nq,by omega,by go_num,rfl⟩,by simp [intOf];omega⟩
   ·go_wp2
    go_ret
    exact ⟨rfl,n,rfl⟩
 ·obtain ⟨a1,c1,rfl⟩:=ha.form
  obtain ⟨a2,c2,rfl⟩:=hb.form
  obtain rfl:l=[]:=List.eq_nil_of_length_eq_zero (by omega)
  clear ha hb h0 hmax
  go_enter Tryz.func52,Tryz.ntmps52
  go_wp2
  go_loopw [13] (fun i wr=>i=.int .i64 0∧wr=w) (fun _ _=>0)
  case atStart=>exact ⟨rfl,rfl⟩
  case round =>
   obtain ⟨rfl,rfl⟩:=hrel
   go_wp2
   go_ret
   exact ⟨rfl,0,rfl⟩
theorem ref1_SameB (va vb:Value) (l:List ByteArray) (w:World) (ha:SlA w 1 va l.length (strs l)) (hb:SlA w 1 vb l.length (strs l)) :
  Calls Tryz.prog 52 #[va,vb] w fun e w'=>e=.returned (.bool true)∧Below w.heap.size w w' :=
 (ref1_SameT va vb l w ha hb).mono fun e w' ⟨he,n,hn⟩=>⟨he,by rw [hn];exact below_of_drewN n⟩
end
section
open Go.RowKit Go.Shelf

section
variable {w:World} {v0 v1 v2 v3:Value} {l:List St} {g h:List Rl} {qs:List Qv} {F:Qv→List ByteArray} {PS NS:List ByteArray}
theorem PolX.max_ok (P:PolX w v0 v1 v2 v3 l g h qs F PS NS) (h6:PS.length≤16):∀ s∈maxS l g PS NS,(ruleN (putX PS) NS s).2=true :=
 fun s hs=>ruleN_in (maxS_right P.rl P.rP P.rN h6 s hs) (maxS_in P.inAB s hs)
end
theorem least_mem {l:List St} {D:Rl→ByteArray→Prop} (hk:∀ s∈l,s.k=1) (h:LeastS l D) (r:Rl) (x:ByteArray):D r x↔∃ s∈l,s.h=r∧s.who=x:=by
 constructor
 ·intro hd
  refine h.min (fun r x => ∃ s∈l,s.h=r∧s.who=x) ⟨fun s hs _=>⟨s,hs,rfl,rfl⟩,fun s hs h2=>?_,fun s hs h2=>?_,fun s hs h2=>?_⟩ r x hd
  ·rw [hk s hs] at h2;cases h2
  ·rw [hk s hs] at h2;cases h2
  ·rw [hk s hs] at h2;cases h2
 ·rintro ⟨s,hs,rfl,rfl⟩
  exact h.clo.mem s hs (hk s hs)
def r12:Rl:=⟨⟨#[65]⟩,⟨#[114]⟩⟩
def s12:St:=⟨1,r12,⟨#[66]⟩,noR,noR,emp⟩
def P12:List ByteArray:=[⟨#[65]⟩,⟨#[66]⟩]
def N12:List ByteArray:=[⟨#[114]⟩]
def X12:ByteArray:=⟨#[88,49]⟩
theorem fresh12:freshB P12=X12:=by
 have e:xdec 1=X12:=by unfold xdec;rw [decL_small (by omega)];rfl
 rw [← e]
 refine fresh_eq ⟨1,Nat.le_refl _,fun j a b=>by omega,?_,rfl⟩
 rw [e]
 intro hm
 unfold P12 X12 at hm
 simp only [List.mem_cons,List.not_mem_nil,or_false,ByteArray.mk.injEq] at hm
 revert hm
 decide
theorem ex12_right:rightS s12=true:=by kernel_rfl
theorem ex12_kind {g:List Rl}:∀ s∈maxS [s12] g P12 N12,s.k=1:=by
 intro s hs
 rcases maxS_mem.1 hs with h | ⟨r,x,rfl,_⟩
 ·rw [List.mem_singleton.1 h];rfl
 ·rfl
theorem ex12_p {ps:List Pr} (h:LeastS (maxS [s12] [r12] P12 N12) (fun r x=>(r,x)∈ps)):membersP ps r12=[⟨#[66]⟩]:=by
 refine asc_uniqueB _ _ (membersP_asc _ _) (List.pairwise_singleton ..) (fun y=>?_)
 rw [membersP_mem,least_mem ex12_kind h]
 constructor
 ·rintro ⟨s,hs,e1,e2⟩
  rcases maxS_mem.1 hs with h1 | ⟨r,x,rfl,⟨_,h2⟩,_⟩
  ·rw [List.mem_singleton.1 h1] at e2
   rw [← e2];exact List.mem_singleton.2 rfl
  ·exact absurd (List.mem_singleton.2 e1) h2
 ·intro hy
  rw [List.mem_singleton.1 hy]
  exact ⟨s12,maxS_mem.2 (.inl (List.mem_singleton.2 rfl)),rfl,rfl⟩
def F12:Qv→List ByteArray:=fun _=>[]
section
variable {w:World} {b1:Nat} {v1:Value} {g:List Rl}
end
theorem alloc_keep {w:World} {g:Nat} {o x:Obj} (h:w.heap[g]? = some o):(w.alloc x).heap[g]? = some o:=(Below.heap_alloc _ _ _ (Array.getElem?_eq_some_iff.1 h).1).trans h
theorem heap_new4 (w:World) (o1 o2 o3 o4:Obj):((((w.alloc o1).alloc o2).alloc o3).alloc o4).heap[w.heap.size+1+1+1]? = some o4:=by
 have:=heap_alloc_new (((w.alloc o1).alloc o2).alloc o3) o4
 simpa using this
theorem heap_new5 (w:World) (o1 o2 o3 o4 o5:Obj):(((((w.alloc o1).alloc o2).alloc o3).alloc o4).alloc o5).heap[w.heap.size+1+1+1+1]? = some o5:=by
 have:=heap_alloc_new ((((w.alloc o1).alloc o2).alloc o3).alloc o4) o5
 simpa using this
theorem five_at (w:World) (o0 o1 o2 o3 o4:Obj):(((((w.alloc o0).alloc o1).alloc o2).alloc o3).alloc o4).heap[w.heap.size]? = some o0∧(((((w.alloc o0).alloc o1).alloc o2).alloc o3).alloc o4).heap[w.heap.size+1]? = some o1∧(((((w.alloc o0).alloc o1).alloc o2).alloc o3).alloc o4).heap[w.heap.size+1+1]? = some o2 ∧
  (((((w.alloc o0).alloc o1).alloc o2).alloc o3).alloc o4).heap[w.heap.size+1+1+1]? = some o3∧(((((w.alloc o0).alloc o1).alloc o2).alloc o3).alloc o4).heap[w.heap.size+1+1+1+1]? = some o4 :=
 ⟨alloc_keep (alloc_keep (alloc_keep (alloc_keep (heap_new1 w o0)))),alloc_keep (alloc_keep (alloc_keep (heap_new2 w o0 o1))),alloc_keep (alloc_keep (heap_new3 w o0 o1 o2)),alloc_keep (heap_new4 w o0 o1 o2 o3),heap_new5 w o0 o1 o2 o3 o4⟩
end
end Go.Proofs.YtilgbodgmkmjjaaGreatDoor
