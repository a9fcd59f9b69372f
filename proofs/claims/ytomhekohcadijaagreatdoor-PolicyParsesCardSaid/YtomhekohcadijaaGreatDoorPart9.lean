/- Parts: QSpec QLaw BackLaw Builder StrJoin QTok QBackLaw QGood LinesLaw IdxFuncs -/
import Derived.Test.YtomhekohcadijaaGreatDoorPart3
import Derived.Test.YtomhekohcadijaaGreatDoorPart8
import Derived.Test.YtomhekohcadijaaGreatDoorPart1
import Derived.Shelf.Strings.BuilderK
import Derived.Test.YtomhekohcadijaaGreatDoorShelf
import Derived.Test.YtomhekohcadijaaGreatDoorPart4
import Derived.Shelf.Strings.OnBuilder
import Derived.Lib.IndexLaws
import Derived.Test.YtomhekohcadijaaGreatDoorPart6
namespace Go.Proofs.YtomhekohcadijaaGreatDoor
section

def wAlways:ByteArray:=⟨#[97,108,119,97,121,115]⟩
def wCan:ByteArray:=⟨#[99,97,110]⟩
def wHas:ByteArray:=⟨#[104,97,115]⟩
def wHave:ByteArray:=⟨#[104,97,118,101]⟩
def wWithin:ByteArray:=⟨#[119,105,116,104,105,110]⟩
def wBe:ByteArray:=⟨#[98,101]⟩
def wEmpty:ByteArray:=⟨#[101,109,112,116,121]⟩
def wApart:ByteArray:=⟨#[97,112,97,114,116]⟩
def wIn:ByteArray:=⟨#[105,110]⟩
def wBeEmpty:ByteArray:=⟨#[98,101,32,101,109,112,116,121]⟩
structure Qd where
 k:Int
 a:Rl
 b:Rl
 us:List ByteArray
def noQd:Qd:=⟨0,noR,noR,[]⟩
def Tok.tx (t:Tok):ByteArray:=⟨t.text.toArray⟩
def Rd.want (r:Rd) (f:Tok→Bool):ByteArray × Rd :=
 if r.why≠0 then (emp,r) else
 match r.l with
 | []=>(emp,r.fail r.e 3)
 | t :: _=>if f t=true then (t.tx,r.drop1) else (emp,r.fail t.col 2)
def wordIn (ws:List ByteArray) (t:Tok):Bool:=decide (t.kind=2) && hasB ws t.tx
def Rd.word (r:Rd) (ws:List ByteArray):ByteArray × Rd:=r.want (wordIn ws)
def askW (u:Bool):List ByteArray:=if u=true then [wHas,wWithin,wApart,wIn] else [wHave,wBe]
def kindW (s:ByteArray):Int:=if s=wHas then 1 else if s=wHave then 2 else if s=wWithin then 3 else if s=wBe then 4 else if s=wApart then 5 else if s=wIn then 6 else 0
def Rd.ask (r:Rd) (u:Bool):Int × Rd:=(kindW (r.word (askW u)).1,if kindW (r.word (askW u)).1=4 then ((r.word (askW u)).2.word [wEmpty]).2 else (r.word (askW u)).2)
def whoT (few:Int):List Tok→Nat→List ByteArray→Int→Int→List ByteArray × Rd
 | [],n,acc,e,p=>if (n:Int) < few then (insSB acc emp,⟨[],e,e,3⟩) else (acc,⟨[],e,p,0⟩)
 | t :: l,n,acc,e,p =>
  if t.kind=1 then if acc.length=12∧hasB acc t.tx=false then ([],⟨t :: l,e,t.col,5⟩) else whoT few l (n+1) (insSB acc t.tx) e p
  else (insSB acc emp,⟨t :: l,e,t.col,2⟩)
def Rd.who (r:Rd) (few:Int):List ByteArray × Rd:=if r.why≠0 then ([],r) else whoT few r.l 0 [] r.e r.p
def Rd.endQ (r:Rd) (q:Qd):Qd × Int × Int :=
 if r.why≠0 then (noQd,r.p,r.why) else match r.l with | []=>(q,0,0) | t :: _=>(noQd,t.col,2)
def Rd.roleB (r:Rd) (k:Int):Rl × Rd:=if secB k=true then r.role else (noR,r)
def Rd.whoB (r:Rd) (k:Int):List ByteArray × Rd:=if 0≤leastI k then r.who (leastI k) else ([],r)
def tailQ (k:Int) (a:Rl) (r:Rd):Qd × Int × Int:=((r.roleB k).2.whoB k).2.endQ ⟨k,a,(r.roleB k).1,((r.roleB k).2.whoB k).1⟩
def midQ (u:Bool) (r:Rd):Qd × Int × Int:=tailQ (r.role.2.ask u).1 r.role.1 (r.role.2.ask u).2
def readQ (l:List Tok) (e:Int):Qd × Int × Int:=midQ (decide (((Rd.mk l e 0 0).word [wAlways,wCan]).1=wAlways)) ((Rd.mk l e 0 0).word [wAlways,wCan]).2

/-! The document's answer. -/
def nameT (t:Tok) (s:ByteArray):Bool:=decide (t.kind=2) && decide (t.tx=s)
def wordsQ (k:Int):ByteArray:=if k=1 then wHas else if k=2 then wHave else if k=3 then wWithin else if k=4 then wBeEmpty else if k=5 then wApart else if k=6 then wIn else emp
def goesQ (k:Int) (i:Nat) (t:Tok):Bool :=
 if i=0 then (univB k && nameT t wAlways) || (!univB k && nameT t wCan)
 else if i=1 then decide (t.kind=1) else if i=2 then decide (t.kind=3) else if i=3 then decide (t.kind=2)
 else if i=4 then (decide (k=4) && nameT t wBe) || (!decide (k=4) && nameT t (wordsQ k))
 else if i=5 then (decide (k=4) && nameT t wEmpty) || (decide (5≤k) && decide (t.kind=1))
 else if i=6 then decide (5≤k) && decide (t.kind=3)
 else if i=7 then decide (5≤k) && decide (t.kind=2) else false
def frontQ (k:Int):Nat:=if k=4 then 6 else if 5≤k then 8 else 5
def fitQ (k:Int):Nat→List Tok→Nat
 | i,t :: l=>if i < frontQ k∧goesQ k i t=true then fitQ k (i+1) l+1 else 0
 | _,[]=>0
def txQ (l:List Tok) (i:Nat):ByteArray:=(l.getD i ⟨0,[],0⟩).tx
def restQ (k:Int) (q:Qd) (e:Int):List Tok→Qd × Int × Int
 | t :: l=>if k≤3∧t.kind=1 then if 12 < (insSB q.us t.tx).length then (noQd,t.col,5) else restQ k ⟨q.k,q.a,q.b,insSB q.us t.tx⟩ e l else (noQd,t.col,2)
 | []=>if k≤2∧q.us.length=0 then (noQd,e,3) else (q,0,0)
def kindQ (k:Int) (l:List Tok) (e:Int):Qd × Int × Int:=restQ k ⟨k,⟨txQ l 1,txQ l 3⟩,if 5≤k then ⟨txQ l 5,txQ l 7⟩ else noR,[]⟩ e (l.drop (frontQ k))
def bestQ (l:List Tok):Nat:=max (max (max (max (max (fitQ 1 0 l) (fitQ 2 0 l)) (fitQ 3 0 l)) (fitQ 4 0 l)) (fitQ 5 0 l)) (fitQ 6 0 l)
def endQ (l:List Tok) (e:Int):Qd × Int × Int:=if bestQ l=l.length then (noQd,e,3) else (noQd,(l.getD (bestQ l) ⟨0,[],0⟩).col,2)
def refQ (l:List Tok) (e:Int):Qd × Int × Int :=
 if fitQ 1 0 l=5 then kindQ 1 l e else if fitQ 2 0 l=5 then kindQ 2 l e else if fitQ 3 0 l=5 then kindQ 3 l e
 else if fitQ 4 0 l=6 then kindQ 4 l e else if fitQ 5 0 l=8 then kindQ 5 l e else if fitQ 6 0 l=8 then kindQ 6 l e else endQ l e
theorem insS_len1 {l:List ByteArray} {x:ByteArray} (h:hasB l x=false):(insSB l x).length=l.length+1:=by
 rw [insS_notB h,insAt_lenB (pos_leB l x)]
 have:=pos_leB l x
 omega
end
section

theorem want_why (l:List Tok) (e p y:Int) (f:Tok→Bool) (h:y≠0):(Rd.mk l e p y).want f=(emp,⟨l,e,p,y⟩):=if_pos h
theorem want_nil (e p:Int) (f:Tok→Bool):(Rd.mk [] e p 0).want f=(emp,⟨[],e,e,3⟩):=rfl
theorem want_no (t:Tok) (l:List Tok) (e p:Int) (f:Tok→Bool) (h:f t=false):(Rd.mk (t :: l) e p 0).want f=(emp,⟨t :: l,e,t.col,2⟩):=by
 simp only [Rd.want,ne_eq,not_true_eq_false,if_false,h];rfl
theorem want_yes (t:Tok) (l:List Tok) (e p:Int) (f:Tok→Bool) (h:f t=true):(Rd.mk (t :: l) e p 0).want f=(t.tx,⟨l,e,p,0⟩):=by
 simp only [Rd.want,ne_eq,not_true_eq_false,if_false,if_pos h];rfl
theorem who_why (l:List Tok) (e p y few:Int) (h:y≠0):(Rd.mk l e p y).who few=([],⟨l,e,p,y⟩):=if_pos h
theorem who_go (l:List Tok) (e p few:Int):(Rd.mk l e p 0).who few=whoT few l 0 [] e p:=if_neg (fun h=>h rfl)
theorem endQ_why (l:List Tok) (e p y:Int) (q:Qd) (h:y≠0):(Rd.mk l e p y).endQ q=(noQd,p,y):=if_pos h
theorem endQ_nil (e p:Int) (q:Qd):(Rd.mk [] e p 0).endQ q=(q,0,0):=rfl
theorem endQ_cons (t:Tok) (l:List Tok) (e p:Int) (q:Qd):(Rd.mk (t :: l) e p 0).endQ q=(noQd,t.col,2):=rfl
theorem fitQ_nil (k:Int) (i:Nat):fitQ k i []=0:=by unfold fitQ;rfl
theorem fitQ_cons (k:Int) (i:Nat) (t:Tok) (l:List Tok):fitQ k i (t :: l)=if i < frontQ k∧goesQ k i t=true then fitQ k (i+1) l+1 else 0:=by rw [fitQ]
theorem insS_pos (acc:List ByteArray) (x:ByteArray):0 < (insSB acc x).length:=by
 cases h:hasB acc x with
 | true =>
  rw [insS_hasB h]
  cases acc with
  | nil=>cases h
  | cons a r=>simp
 | false=>rw [insS_len1 h];omega
theorem who_rest (k:Int) (a b:Rl) (hk:k=1∨k=2∨k=3) (e p:Int):∀ (l:List Tok) (n:Nat) (acc:List ByteArray),acc.length≤12→(acc.length=0↔n=0) →
  (whoT (leastI k) l n acc e p).2.endQ ⟨k,a,b,(whoT (leastI k) l n acc e p).1⟩=restQ k ⟨k,a,b,acc⟩ e l
 | [],n,acc,h12,h0=>by
  by_cases hf:(n:Int) < leastI k
  ·have h1:k≤2∧acc.length=0:=by
    rcases hk with rfl | rfl | rfl
    ·have:leastI 1=1:=rfl
     exact ⟨by decide,h0.2 (by omega)⟩
    ·have:leastI 2=1:=rfl
     exact ⟨by decide,h0.2 (by omega)⟩
    ·have:leastI 3=0:=rfl
     omega
   rw [show whoT (leastI k) [] n acc e p=(insSB acc emp,⟨[],e,e,3⟩) by unfold whoT;exact if_pos hf,endQ_why _ _ _ _ _ (by decide)]
   unfold restQ
   rw [if_pos h1]
  ·have h1:¬ (k≤2∧acc.length=0):=by
    rintro ⟨h1,h2⟩
    have hn:=h0.1 h2
    rcases hk with rfl | rfl | rfl
    ·exact hf (by rw [hn];decide)
    ·exact hf (by rw [hn];decide)
    ·omega
   rw [show whoT (leastI k) [] n acc e p=(acc,⟨[],e,p,0⟩) by unfold whoT;exact if_neg hf,endQ_nil]
   unfold restQ
   rw [if_neg h1]
 | t :: l,n,acc,h12,h0=>by
  by_cases h1:t.kind=1
  ·have hk3:k≤3∧t.kind=1:=⟨by omega,h1⟩
   by_cases hm:acc.length=12∧hasB acc t.tx=false
   ·rw [show whoT (leastI k) (t :: l) n acc e p=([],⟨t :: l,e,t.col,5⟩) by rw [whoT,if_pos h1,if_pos hm],endQ_why _ _ _ _ _ (by decide)]
    rw [restQ,if_pos hk3,if_pos (by show 12 < (insSB acc t.tx).length;rw [insS_len1 hm.2];omega)]
   ·have hl:(insSB acc t.tx).length≤12:=by
     cases h:hasB acc t.tx with
     | true=>rw [insS_hasB h];exact h12
     | false =>
      rw [insS_len1 h]
      have:¬ acc.length=12:=fun e=>hm ⟨e,h⟩
      omega
    rw [show whoT (leastI k) (t :: l) n acc e p=whoT (leastI k) l (n+1) (insSB acc t.tx) e p by rw [whoT,if_pos h1,if_neg hm]]
    rw [restQ,if_pos hk3,if_neg (by show ¬ 12 < (insSB acc t.tx).length;omega)]
    exact who_rest k a b hk e p l (n+1) (insSB acc t.tx) hl ⟨fun h=>by have:=insS_pos acc t.tx;omega,fun h=>by omega⟩
  ·rw [show whoT (leastI k) (t :: l) n acc e p=(insSB acc emp,⟨t :: l,e,t.col,2⟩) by rw [whoT,if_neg h1],endQ_why _ _ _ _ _ (by decide)]
   rw [restQ,if_neg (fun h=>h1 h.2)]
theorem tail_who (k:Int) (a:Rl) (hk:k=1∨k=2∨k=3) (l:List Tok) (e p:Int):tailQ k a ⟨l,e,p,0⟩=restQ k ⟨k,a,noR,[]⟩ e l:=by
 have hs:secB k=false:=by rcases hk with rfl | rfl | rfl <;> rfl
 have hl:0≤leastI k:=by rcases hk with rfl | rfl | rfl <;> decide
 unfold tailQ Rd.roleB Rd.whoB
 simp only [hs,hl,if_true,Bool.false_eq_true,if_false,who_go]
 exact who_rest k a noR hk e p l 0 [] (by simp) (by simp)
theorem tail_none (a:Rl) (l:List Tok) (e p:Int):tailQ 4 a ⟨l,e,p,0⟩=restQ 4 ⟨4,a,noR,[]⟩ e l:=by
 have hs:secB 4=false:=rfl
 have hl:¬ 0≤leastI 4:=by decide
 unfold tailQ Rd.roleB Rd.whoB
 simp only [hs,hl,Bool.false_eq_true,if_false]
 cases l with
 | nil=>rw [endQ_nil];rfl
 | cons t l=>rw [endQ_cons];unfold restQ;rw [if_neg (by omega)]
theorem tail_why (k:Int) (a:Rl) (l:List Tok) (e p y:Int) (h:y≠0):tailQ k a ⟨l,e,p,y⟩=(noQd,p,y):=by
 unfold tailQ Rd.roleB Rd.whoB
 have hr:(Rd.mk l e p y).role=(noR,⟨l,e,p,y⟩):=by rw [role_def];simp only [why_take _ _ _ _ _ h];rfl
 have h1:(if secB k=true then (Rd.mk l e p y).role else (noR,Rd.mk l e p y))=(noR,⟨l,e,p,y⟩):=by split <;> simp [hr]
 rw [h1]
 dsimp only
 have h2:(if 0≤leastI k then (Rd.mk l e p y).who (leastI k) else ([],Rd.mk l e p y))=([],⟨l,e,p,y⟩):=by split <;> simp [who_why _ _ _ _ _ h]
 rw [h2]
 exact endQ_why _ _ _ _ _ h
theorem ask_why (l:List Tok) (e p y:Int) (u:Bool) (h:y≠0):(Rd.mk l e p y).ask u=(0,⟨l,e,p,y⟩):=by
 unfold Rd.ask Rd.word
 rw [want_why _ _ _ _ _ h]
 rfl
theorem mid_why (l:List Tok) (e p y:Int) (u:Bool) (h:y≠0):midQ u ⟨l,e,p,y⟩=(noQd,p,y):=by
 unfold midQ
 have hr:(Rd.mk l e p y).role=(noR,⟨l,e,p,y⟩):=by rw [role_def];simp only [why_take _ _ _ _ _ h];rfl
 rw [hr]
 dsimp only
 rw [ask_why _ _ _ _ _ h]
 exact tail_why _ _ _ _ _ _ h
theorem tail_two (k:Int) (hk:k=5∨k=6) (a:Rl) (l:List Tok) (e p:Int):tailQ k a ⟨l,e,p,0⟩=(Rd.mk l e p 0).role.2.endQ ⟨k,a,(Rd.mk l e p 0).role.1,[]⟩:=by
 have hs:secB k=true:=by rcases hk with rfl | rfl <;> rfl
 have hl:¬ 0≤leastI k:=by rcases hk with rfl | rfl <;> decide
 unfold tailQ Rd.roleB Rd.whoB
 simp only [hs,hl,if_true,if_false]
theorem want_cons (t:Tok) (l:List Tok) (e p:Int) (f:Tok→Bool):(Rd.mk (t :: l) e p 0).want f=if f t=true then (t.tx,⟨l,e,p,0⟩) else (emp,⟨t :: l,e,t.col,2⟩):=by
 cases h:f t with
 | true=>rw [want_yes _ _ _ _ _ h];rfl
 | false=>rw [want_no _ _ _ _ _ h];rfl
theorem wordIn2 (a b:ByteArray) (t:Tok):wordIn [a,b] t=(decide (t.kind=2) && (decide (a=t.tx) || decide (b=t.tx))):=by simp [wordIn,hasB]
theorem wordIn1 (a:ByteArray) (t:Tok):wordIn [a] t=(decide (t.kind=2) && decide (a=t.tx)):=by simp [wordIn,hasB]
theorem wordIn4 (a b c d:ByteArray) (t:Tok):wordIn [a,b,c,d] t=(decide (t.kind=2) && (decide (a=t.tx) || decide (b=t.tx) || decide (c=t.tx) || decide (d=t.tx))):=by simp [wordIn,hasB,Bool.or_assoc]
theorem kindW_emp:kindW emp=0:=by decide
theorem kw1:kindW wHas=1:=by decide
theorem kw2:kindW wHave=2:=by decide
theorem kw3:kindW wWithin=3:=by decide
theorem kw4:kindW wBe=4:=by decide
theorem kw5:kindW wApart=5:=by decide
theorem kw6:kindW wIn=6:=by decide
theorem g0 (k:Int) (t:Tok):goesQ k 0 t=((univB k && nameT t wAlways) || (!univB k && nameT t wCan)):=rfl
theorem g1 (k:Int) (t:Tok):goesQ k 1 t=decide (t.kind=1):=rfl
theorem g2 (k:Int) (t:Tok):goesQ k 2 t=decide (t.kind=3):=rfl
theorem g3 (k:Int) (t:Tok):goesQ k 3 t=decide (t.kind=2):=rfl
theorem g4 (k:Int) (t:Tok):goesQ k 4 t=((decide (k=4) && nameT t wBe) || (!decide (k=4) && nameT t (wordsQ k))):=rfl
theorem g5 (k:Int) (t:Tok):goesQ k 5 t=((decide (k=4) && nameT t wEmpty) || (decide (5≤k) && decide (t.kind=1))):=rfl
theorem g6 (k:Int) (t:Tok):goesQ k 6 t=(decide (5≤k) && decide (t.kind=3)):=rfl
theorem g7 (k:Int) (t:Tok):goesQ k 7 t=(decide (5≤k) && decide (t.kind=2)):=rfl
theorem f1:frontQ 1=5:=rfl
theorem f2:frontQ 2=5:=rfl
theorem f3:frontQ 3=5:=rfl
theorem f4:frontQ 4=6:=rfl
theorem f5:frontQ 5=8:=rfl
theorem f6:frontQ 6=8:=rfl
theorem u1:univB 1=true:=rfl
theorem u2:univB 2=false:=rfl
theorem u3:univB 3=true:=rfl
theorem u4:univB 4=false:=rfl
theorem u5:univB 5=true:=rfl
theorem u6:univB 6=true:=rfl
theorem wq1:wordsQ 1=wHas:=rfl
theorem wq2:wordsQ 2=wHave:=rfl
theorem wq3:wordsQ 3=wWithin:=rfl
theorem wq5:wordsQ 5=wApart:=rfl
theorem wq6:wordsQ 6=wIn:=rfl
theorem ne_ac:¬ wAlways=wCan:=by decide
theorem ne_ca:¬ wCan=wAlways:=by decide
set_option maxHeartbeats 8000000 in
theorem law_query (l:List Tok) (e:Int):readQ l e=refQ l e:=by
 unfold readQ Rd.word
 rcases l with _ | ⟨t0,l⟩
 ·rw [want_nil,mid_why _ _ _ _ _ (by decide)]
  simp (decide:=true) [refQ,endQ]
 by_cases h0:t0.kind=2
 rotate_left
 ·rw [want_no _ _ _ _ _ (by simp [wordIn2,h0]),mid_why _ _ _ _ _ (by decide)]
  simp (decide:=true) [refQ,fitQ_cons,endQ,bestQ,g0,nameT,h0]
 by_cases ha:t0.tx=wAlways
 ·rw [want_yes _ _ _ _ _ (by simp [wordIn2,h0,ha]),ha,decide_eq_true rfl]
  unfold midQ Rd.ask Rd.word askW
  have hn:¬ t0.tx=wCan:=by rw [ha];exact ne_ac
  rcases l with _ | ⟨t1,l⟩
  rotate_left
  by_cases h1:t1.kind=1
  rcases l with _ | ⟨t2,l⟩
  rotate_left
  by_cases h2:t2.kind=3
  rcases l with _ | ⟨t3,l⟩
  rotate_left
  by_cases h3:t3.kind=2
  rcases l with _ | ⟨t4,l⟩
  rotate_left
  by_cases h4:t4.kind=2
  rotate_left
  all_goals try (simp (decide:=true) [role_def,take_no,take_yes,take_nil,why_take,want_nil,want_cons,want_why,wordIn4,kindW_emp,tail_why,refQ,fitQ_nil,fitQ_cons,endQ,bestQ,g0,g1,g2,g3,g4,u1,u2,u3,u4,u5,u6,nameT, *];done)
  have R:(Rd.mk (t1 :: t2 :: t3 :: t4 :: l) e 0 0).role=(⟨t1.tx,t3.tx⟩,⟨t4 :: l,e,0,0⟩):=by simp (decide:=true) [role_def,take_yes,Tok.tx, *]
  rw [R]
  dsimp only
  by_cases c1:t4.tx=wHas
  ·have K1:fitQ 1 0 (t0 :: t1 :: t2 :: t3 :: t4 :: l)=5:=by
    cases l <;> simp (decide:=true) [fitQ_nil,fitQ_cons,g0,g1,g2,g3,g4,u1,nameT,wq1, *]
   rw [if_pos rfl,want_yes _ _ _ _ _ (by simp [wordIn4,h4,c1]),c1,kw1,if_neg (by decide),tail_who 1 _ (by simp),refQ,if_pos K1]
   rfl
  have K1:fitQ 1 0 (t0 :: t1 :: t2 :: t3 :: t4 :: l)=4:=by simp (decide:=true) [fitQ_cons,g0,g1,g2,g3,g4,u1,nameT,wq1, *]
  have K2:fitQ 2 0 (t0 :: t1 :: t2 :: t3 :: t4 :: l)=0:=by simp (decide:=true) [fitQ_cons,g0,u2,nameT, *]
  have K4:fitQ 4 0 (t0 :: t1 :: t2 :: t3 :: t4 :: l)=0:=by simp (decide:=true) [fitQ_cons,g0,u4,nameT, *]
  by_cases c3:t4.tx=wWithin
  ·have K3:fitQ 3 0 (t0 :: t1 :: t2 :: t3 :: t4 :: l)=5:=by
    cases l <;> simp (decide:=true) [fitQ_nil,fitQ_cons,g0,g1,g2,g3,g4,u3,nameT,wq3, *]
   rw [if_pos rfl,want_yes _ _ _ _ _ (by simp [wordIn4,h4,c3]),c3,kw3,if_neg (by decide),tail_who 3 _ (by simp),refQ,if_neg (by omega),if_neg (by omega),if_pos K3]
   rfl
  have K3:fitQ 3 0 (t0 :: t1 :: t2 :: t3 :: t4 :: l)=4:=by simp (decide:=true) [fitQ_cons,g0,g1,g2,g3,g4,u3,nameT,wq3, *]
  by_cases c5:t4.tx=wApart
  ·have K6:fitQ 6 0 (t0 :: t1 :: t2 :: t3 :: t4 :: l)=4:=by simp (decide:=true) [fitQ_cons,g0,g1,g2,g3,g4,u6,nameT,wq6, *]
   rw [if_pos rfl,want_yes _ _ _ _ _ (by simp [wordIn4,h4,c5]),c5,kw5,if_neg (by decide),tail_two 5 (by simp)]
   have K5:fitQ 5 0 (t0 :: t1 :: t2 :: t3 :: t4 :: l)=fitQ 5 5 l+5:=by simp (decide:=true) [fitQ_cons,g0,g1,g2,g3,g4,u5,nameT,wq5, *]
   have T1:txQ (t0 :: t1 :: t2 :: t3 :: t4 :: l) 1=t1.tx:=rfl
   have T3:txQ (t0 :: t1 :: t2 :: t3 :: t4 :: l) 3=t3.tx:=rfl
   have B:bestQ (t0 :: t1 :: t2 :: t3 :: t4 :: l)=fitQ 5 5 l+5:=by unfold bestQ;omega
   rw [refQ,if_neg (by omega),if_neg (by omega),if_neg (by omega),if_neg (by omega),endQ,B,K5,K6,kindQ,kindQ,T1,T3]
   clear K1 K2 K3 K4 K5 K6 R T1 T3 B
   rcases l with _ | ⟨t5,l⟩
   rotate_left
   by_cases h5:t5.kind=1
   rcases l with _ | ⟨t6,l⟩
   rotate_left
   by_cases h6:t6.kind=3
   rcases l with _ | ⟨t7,l⟩
   rotate_left
   by_cases h7:t7.kind=2
   rcases l with _ | ⟨t8,l⟩
   all_goals simp [role_def,take_no,take_yes,take_nil,why_take,endQ_why,endQ_nil,endQ_cons,fitQ_nil,fitQ_cons,g5,g6,g7,f5,restQ,txQ,Tok.tx, *]
  have K5:fitQ 5 0 (t0 :: t1 :: t2 :: t3 :: t4 :: l)=4:=by simp (decide:=true) [fitQ_cons,g0,g1,g2,g3,g4,u5,nameT,wq5, *]
  by_cases c6:t4.tx=wIn
  ·rw [if_pos rfl,want_yes _ _ _ _ _ (by simp [wordIn4,h4,c6]),c6,kw6,if_neg (by decide),tail_two 6 (by simp)]
   have K6:fitQ 6 0 (t0 :: t1 :: t2 :: t3 :: t4 :: l)=fitQ 6 5 l+5:=by simp (decide:=true) [fitQ_cons,g0,g1,g2,g3,g4,u6,nameT,wq6, *]
   have T1:txQ (t0 :: t1 :: t2 :: t3 :: t4 :: l) 1=t1.tx:=rfl
   have T3:txQ (t0 :: t1 :: t2 :: t3 :: t4 :: l) 3=t3.tx:=rfl
   have B:bestQ (t0 :: t1 :: t2 :: t3 :: t4 :: l)=fitQ 6 5 l+5:=by unfold bestQ;omega
   rw [refQ,if_neg (by omega),if_neg (by omega),if_neg (by omega),if_neg (by omega),endQ,B,K5,K6,kindQ,kindQ,T1,T3]
   clear K1 K2 K3 K4 K5 K6 R T1 T3 B
   rcases l with _ | ⟨t5,l⟩
   rotate_left
   by_cases h5:t5.kind=1
   rcases l with _ | ⟨t6,l⟩
   rotate_left
   by_cases h6:t6.kind=3
   rcases l with _ | ⟨t7,l⟩
   rotate_left
   by_cases h7:t7.kind=2
   rcases l with _ | ⟨t8,l⟩
   all_goals simp [role_def,take_no,take_yes,take_nil,why_take,endQ_why,endQ_nil,endQ_cons,fitQ_nil,fitQ_cons,g5,g6,g7,f6,restQ,txQ,Tok.tx, *]
  have K6:fitQ 6 0 (t0 :: t1 :: t2 :: t3 :: t4 :: l)=4:=by simp (decide:=true) [fitQ_cons,g0,g1,g2,g3,g4,u6,nameT,wq6, *]
  have B:bestQ (t0 :: t1 :: t2 :: t3 :: t4 :: l)=4:=by unfold bestQ;omega
  rw [if_pos rfl,want_no _ _ _ _ _ (by simp [wordIn4,Ne.symm c1,Ne.symm c3,Ne.symm c5,Ne.symm c6]),kindW_emp,if_neg (by decide),tail_why _ _ _ _ _ _ (by decide)]
  rw [refQ,if_neg (by omega),if_neg (by omega),if_neg (by omega),if_neg (by omega),if_neg (by omega),if_neg (by omega),endQ,B]
  rw [if_neg (by simp)]
  rfl
 by_cases hc:t0.tx=wCan
 ·rw [want_yes _ _ _ _ _ (by simp [wordIn2,h0,hc]),hc,decide_eq_false ne_ca]
  unfold midQ Rd.ask Rd.word askW
  rcases l with _ | ⟨t1,l⟩
  rotate_left
  by_cases h1:t1.kind=1
  rcases l with _ | ⟨t2,l⟩
  rotate_left
  by_cases h2:t2.kind=3
  rcases l with _ | ⟨t3,l⟩
  rotate_left
  by_cases h3:t3.kind=2
  rcases l with _ | ⟨t4,l⟩
  rotate_left
  by_cases h4:t4.kind=2
  rotate_left
  all_goals try (simp (decide:=true) [role_def,take_no,take_yes,take_nil,why_take,want_nil,want_cons,want_why,wordIn2,kindW_emp,tail_why,refQ,fitQ_nil,fitQ_cons,endQ,bestQ,g0,g1,g2,g3,g4,u1,u2,u3,u4,u5,u6,nameT, *];done)
  have R:(Rd.mk (t1 :: t2 :: t3 :: t4 :: l) e 0 0).role=(⟨t1.tx,t3.tx⟩,⟨t4 :: l,e,0,0⟩):=by simp [role_def,take_yes,Tok.tx, *]
  rw [R]
  dsimp only
  have K1:fitQ 1 0 (t0 :: t1 :: t2 :: t3 :: t4 :: l)=0:=by simp (decide:=true) [fitQ_cons,g0,u1,nameT, *]
  have K3:fitQ 3 0 (t0 :: t1 :: t2 :: t3 :: t4 :: l)=0:=by simp (decide:=true) [fitQ_cons,g0,u3,nameT, *]
  have K5:fitQ 5 0 (t0 :: t1 :: t2 :: t3 :: t4 :: l)=0:=by simp (decide:=true) [fitQ_cons,g0,u5,nameT, *]
  have K6:fitQ 6 0 (t0 :: t1 :: t2 :: t3 :: t4 :: l)=0:=by simp (decide:=true) [fitQ_cons,g0,u6,nameT, *]
  by_cases c2:t4.tx=wHave
  ·have K2:fitQ 2 0 (t0 :: t1 :: t2 :: t3 :: t4 :: l)=5:=by
    cases l <;> simp (decide:=true) [fitQ_nil,fitQ_cons,g0,g1,g2,g3,g4,u2,nameT,wq2, *]
   rw [if_neg (by decide),want_yes _ _ _ _ _ (by simp [wordIn2,h4,c2]),c2,kw2,if_neg (by decide),tail_who 2 _ (by simp),refQ,if_neg (by omega),if_pos K2]
   rfl
  have K2:fitQ 2 0 (t0 :: t1 :: t2 :: t3 :: t4 :: l)=4:=by simp (decide:=true) [fitQ_cons,g0,g1,g2,g3,g4,u2,nameT,wq2, *]
  by_cases c4:t4.tx=wBe
  ·have K4:fitQ 4 0 (t0 :: t1 :: t2 :: t3 :: t4 :: l)=fitQ 4 5 l+5:=by simp (decide:=true) [fitQ_cons,g0,g1,g2,g3,g4,u4,nameT, *]
   have B:bestQ (t0 :: t1 :: t2 :: t3 :: t4 :: l)=fitQ 4 5 l+5:=by unfold bestQ;omega
   rw [if_neg (by decide),want_yes _ _ _ _ _ (by simp [wordIn2,h4,c4]),c4,kw4,if_pos rfl]
   rw [refQ,if_neg (by omega),if_neg (by omega),if_neg (by omega),if_neg (show ¬ fitQ 5 0 _=8 by omega),if_neg (show ¬ fitQ 6 0 _=8 by omega),endQ,B,K4]
   clear K1 K2 K3 K4 K5 K6 B R
   rcases l with _ | ⟨t5,l⟩
   ·rw [want_nil,tail_why _ _ _ _ _ _ (by decide),if_neg (by rw [fitQ_nil];decide),if_pos (by simp [fitQ_nil])]
   by_cases h5:t5.kind=2
   rotate_left
   ·have F:fitQ 4 5 (t5 :: l)=0:=by simp [fitQ_cons,g5,nameT,h5]
    rw [want_no _ _ _ _ _ (by simp [wordIn1,h5]),tail_why _ _ _ _ _ _ (by decide),F,if_neg (by decide),if_neg (by simp)]
    rfl
   by_cases h6:t5.tx=wEmpty
   ·have F:fitQ 4 5 (t5 :: l)=1:=by cases l <;> simp [fitQ_nil,fitQ_cons,g5,f4,nameT,h5,h6]
    rw [want_yes _ _ _ _ _ (by simp [wordIn1,h5,h6]),tail_none,F,if_pos rfl]
    rfl
   ·have F:fitQ 4 5 (t5 :: l)=0:=by simp [fitQ_cons,g5,nameT,h6]
    rw [want_no _ _ _ _ _ (by simp [wordIn1,Ne.symm h6]),tail_why _ _ _ _ _ _ (by decide),F,if_neg (by decide),if_neg (by simp)]
    rfl
  have K4:fitQ 4 0 (t0 :: t1 :: t2 :: t3 :: t4 :: l)=4:=by simp (decide:=true) [fitQ_cons,g0,g1,g2,g3,g4,u4,nameT, *]
  have B:bestQ (t0 :: t1 :: t2 :: t3 :: t4 :: l)=4:=by unfold bestQ;omega
  rw [if_neg (by decide),want_no _ _ _ _ _ (by simp [wordIn2,Ne.symm c2,Ne.symm c4]),kindW_emp,if_neg (by decide),tail_why _ _ _ _ _ _ (by decide)]
  rw [refQ,if_neg (by omega),if_neg (by omega),if_neg (by omega),if_neg (by omega),if_neg (by omega),if_neg (by omega),endQ,B]
  rw [if_neg (by simp)]
  rfl
 ·rw [want_no _ _ _ _ _ (by simp [wordIn2,h0,Ne.symm ha,Ne.symm hc]),mid_why _ _ _ _ _ (by decide)]
  simp (decide:=true) [refQ,fitQ_cons,endQ,bestQ,g0,nameT,h0,ha,hc]
end
section

def okTok (t:Tok):Prop:=(t.kind=1→isP 65 90 t.text=true)∧(t.kind=2→isP 97 122 t.text=true)
theorem word_isP (lo hi:Int) (c:UInt8) (r:List UInt8) (hb:btw c.toNat lo hi=true) (ha:alnum c=true) (h8:¬ 8 < (wordOf (c :: r)).length):isP lo hi (wordOf (c :: r))=true:=by
 have e:wordOf (c :: r)=c :: wordOf r:=by simp [wordOf,List.takeWhile,ha]
 rw [e] at h8 ⊢
 have hall:(wordOf r).all alnum=true:=by
  rw [List.all_eq_true]
  intro x hx
  exact List.all_eq_true.1 (List.all_takeWhile (p:=alnum) (l:=r)) x hx
 simp only [List.length_cons] at h8
 simp only [isP,hb,List.all_cons,ha,hall,List.length_cons,Bool.and_true,Bool.and_self,decide_eq_true_iff]
 omega
theorem ok_other (k:Int) (t:List UInt8) (p:Int) (h1:¬ k=1) (h2:¬ k=2):okTok ⟨k,t,p⟩:=⟨fun h=>absurd h h1,fun h=>absurd h h2⟩
theorem oneTok_cons (c:UInt8) (r:List UInt8) (p:Nat):oneTok (c :: r) p =
  if c.toNat=46 then ⟨3,[c],p+1⟩ else if c.toNat=38 then ⟨5,[c],p+1⟩
  else if [60,45].isPrefixOf (c :: r) then ⟨4,[60,45],p+1⟩
  else if btw c.toNat 65 90 then ⟨1,wordOf (c :: r),p+1⟩ else if btw c.toNat 97 122 then ⟨2,wordOf (c :: r),p+1⟩ else ⟨0,[c],p+1⟩:=rfl
theorem oneTok_ok (l:List UInt8) (p:Nat) (h8:¬ 8 < (oneTok l p).text.length):okTok (oneTok l p):=by
 match l,h8 with
 | [],_=>exact ok_other 0 _ _ (by decide) (by decide)
 | c :: r,h8 =>
  rw [oneTok_cons] at h8 ⊢
  by_cases h1:c.toNat=46
  ·rw [if_pos h1];exact ok_other 3 _ _ (by decide) (by decide)
  rw [if_neg h1] at h8 ⊢
  by_cases h2:c.toNat=38
  ·rw [if_pos h2];exact ok_other 5 _ _ (by decide) (by decide)
  rw [if_neg h2] at h8 ⊢
  by_cases h3:[60,45].isPrefixOf (c :: r)=true
  ·rw [if_pos h3];exact ok_other 4 _ _ (by decide) (by decide)
  rw [if_neg h3] at h8 ⊢
  by_cases h4:btw c.toNat 65 90=true
  ·rw [if_pos h4] at h8 ⊢
   exact ⟨fun _=>word_isP 65 90 c r h4 (by simp [alnum,h4]) h8,fun h=>absurd h (show ¬ (1:Int)=2 by decide)⟩
  rw [if_neg h4] at h8 ⊢
  by_cases h5:btw c.toNat 97 122=true
  ·rw [if_pos h5] at h8 ⊢
   exact ⟨fun h=>absurd h (show ¬ (2:Int)=1 by decide),fun _=>word_isP 97 122 c r h5 (by simp [alnum,h5]) h8⟩
  ·rw [if_neg h5];exact ok_other 0 _ _ (by decide) (by decide)
theorem toks_ok:∀ (f:Nat) (l:List UInt8) (p:Nat) (acc:List Tok),(∀ t∈acc,okTok t)→∀ t∈(toks f l p acc).1,okTok t
 | 0,l,p,acc,h=>by
  have:toks 0 l p acc=(acc,0,0):=by unfold toks;rfl
  rw [this];exact h
 | f+1,[],p,acc,h=>by rw [toks_nil];exact h
 | f+1,c :: r,p,acc,h=>by
  by_cases hc:c.toNat=32
  ·rw [toks_space _ _ _ _ _ hc];exact toks_ok f r (p+1) acc h
  by_cases hk:(oneTok (c :: r) p).kind=0
  ·rw [toks_bad _ _ _ _ _ hc hk];intro t ht;cases ht
  by_cases hl:8 < (oneTok (c :: r) p).text.length
  ·rw [toks_long _ _ _ _ _ hc hk hl];intro t ht;cases ht
  ·rw [toks_go _ _ _ _ _ hc hk hl]
   refine toks_ok f _ _ _ fun t ht=>?_
   rcases List.mem_append.1 ht with h' | h'
   ·exact h t h'
   ·rw [List.mem_singleton.1 h'];exact oneTok_ok _ _ hl
theorem tokens_ok (l:List UInt8):∀ t∈(tokens l).1,okTok t:=by
 unfold tokens
 split
 ·intro t ht;cases ht
 ·exact toks_ok _ _ _ _ (fun t ht=>by cases ht)

theorem right_normal (h:Rl) (a b:Rl) (hh:isRole h=true) (ha:isRole a=true) (hb:isRole b=true):rightS (normalS ⟨4,h,emp,a,b,emp⟩)=true:=by
 unfold normalS
 by_cases hl:lessR b a=true
 ·rw [if_pos ⟨rfl,hl⟩]
  show rightS ⟨4,h,emp,b,a,emp⟩=true
  rw [rightS4,hh,ha,hb,less_no hl,eqSt_self];rfl
 ·rw [if_neg (fun x=>hl x.2),rightS4,hh,ha,hb,eqSt_self]
  simp only [Bool.not_eq_true] at hl
  rw [hl];rfl
theorem fits_pos {t:Tok} {l:List Tok} {k:Int} {s:List Int} {n:Nat} (h:fitsS (t :: l) (k :: s)=n+1):t.kind=k∧fitsS l s=n:=by
 rw [fits_cons] at h
 by_cases hk:t.kind=k
 ·rw [if_pos hk] at h;exact ⟨hk,by omega⟩
 ·rw [if_neg hk] at h;omega
theorem isRole_of {o n:Tok} {a b:ByteArray} (ho:okTok o) (hn:okTok n) (h1:o.kind=1) (h2:n.kind=2) (ea:bl a=o.text) (eb:bl b=n.text):isRole ⟨a,b⟩=true:=by
 simp only [isRole,ea,eb,ho.1 h1,hn.2 h2];rfl
theorem bl_mk (l:List UInt8):bl ⟨l.toArray⟩=l:=by simp [bl]
theorem len5 {α:Type} {l:List α} (h:l.length=5):∃ t0 t1 t2 t3 t4,l=[t0,t1,t2,t3,t4]:=by
 match l,h with
 | [t0,t1,t2,t3,t4],_=>exact ⟨t0,t1,t2,t3,t4,rfl⟩
theorem len7 {α:Type} {l:List α} (h:l.length=7):∃ t0 t1 t2 t3 t4 t5 t6,l=[t0,t1,t2,t3,t4,t5,t6]:=by
 match l,h with
 | [t0,t1,t2,t3,t4,t5,t6],_=>exact ⟨t0,t1,t2,t3,t4,t5,t6,rfl⟩
theorem len9 {α:Type} {l:List α} (h:l.length=9):∃ t0 t1 t2 t3 t4 t5 t6 t7 t8,l=[t0,t1,t2,t3,t4,t5,t6,t7,t8]:=by
 match l,h with
 | [t0,t1,t2,t3,t4,t5,t6,t7,t8],_=>exact ⟨t0,t1,t2,t3,t4,t5,t6,t7,t8,rfl⟩
theorem len11 {α:Type} {l:List α} (h:l.length=11):∃ t0 t1 t2 t3 t4 t5 t6 t7 t8 t9 t10,l=[t0,t1,t2,t3,t4,t5,t6,t7,t8,t9,t10]:=by
 match l,h with
 | [t0,t1,t2,t3,t4,t5,t6,t7,t8,t9,t10],_=>exact ⟨t0,t1,t2,t3,t4,t5,t6,t7,t8,t9,t10,rfl⟩
theorem refS_right (l:List Tok) (e:Int) (ho:∀ t∈l,okTok t) (h:(refS l e).2.2=0):rightS (refS l e).1=true:=by
 unfold refS at h ⊢
 by_cases h1:fitsS l sh1=l.length∧fitsS l sh1=5
 ·rw [if_pos h1]
  obtain ⟨a1,a2⟩:=h1
  obtain ⟨t0,t1,t2,t3,t4,rfl⟩:=len5 (a1.symm.trans a2)
  obtain ⟨k0,a2⟩:=fits_pos (n:=4) a2
  obtain ⟨k1,a2⟩:=fits_pos (n:=3) a2
  obtain ⟨k2,a2⟩:=fits_pos (n:=2) a2
  obtain ⟨k3,a2⟩:=fits_pos (n:=1) a2
  obtain ⟨k4,a2⟩:=fits_pos (n:=0) a2
  simp only [tx,List.getD_eq_getElem?_getD,List.getElem?_cons_zero,List.getElem?_cons_succ,Option.getD_some]
  rw [rightS1,isRole_of (ho t0 (by simp)) (ho t2 (by simp)) k0 k2 (bl_mk _) (bl_mk _),bl_mk,(ho t4 (by simp)).1 k4,eqSt_self];rfl
 rw [if_neg h1] at h ⊢
 by_cases h2:fitsS l sh2=l.length∧fitsS l sh2=7
 ·rw [if_pos h2]
  obtain ⟨a1,a2⟩:=h2
  obtain ⟨t0,t1,t2,t3,t4,t5,t6,rfl⟩:=len7 (a1.symm.trans a2)
  obtain ⟨k0,a2⟩:=fits_pos (n:=6) a2
  obtain ⟨k1,a2⟩:=fits_pos (n:=5) a2
  obtain ⟨k2,a2⟩:=fits_pos (n:=4) a2
  obtain ⟨k3,a2⟩:=fits_pos (n:=3) a2
  obtain ⟨k4,a2⟩:=fits_pos (n:=2) a2
  obtain ⟨k5,a2⟩:=fits_pos (n:=1) a2
  obtain ⟨k6,a2⟩:=fits_pos (n:=0) a2
  simp only [tx,List.getD_eq_getElem?_getD,List.getElem?_cons_zero,List.getElem?_cons_succ,Option.getD_some]
  rw [rightS2,isRole_of (ho t0 (by simp)) (ho t2 (by simp)) k0 k2 (bl_mk _) (bl_mk _),isRole_of (ho t4 (by simp)) (ho t6 (by simp)) k4 k6 (bl_mk _) (bl_mk _),eqSt_self];rfl
 rw [if_neg h2] at h ⊢
 by_cases h3:fitsS l sh3=l.length∧fitsS l sh3=9
 ·rw [if_pos h3]
  obtain ⟨a1,a2⟩:=h3
  obtain ⟨t0,t1,t2,t3,t4,t5,t6,t7,t8,rfl⟩:=len9 (a1.symm.trans a2)
  obtain ⟨k0,a2⟩:=fits_pos (n:=8) a2
  obtain ⟨k1,a2⟩:=fits_pos (n:=7) a2
  obtain ⟨k2,a2⟩:=fits_pos (n:=6) a2
  obtain ⟨k3,a2⟩:=fits_pos (n:=5) a2
  obtain ⟨k4,a2⟩:=fits_pos (n:=4) a2
  obtain ⟨k5,a2⟩:=fits_pos (n:=3) a2
  obtain ⟨k6,a2⟩:=fits_pos (n:=2) a2
  obtain ⟨k7,a2⟩:=fits_pos (n:=1) a2
  obtain ⟨k8,a2⟩:=fits_pos (n:=0) a2
  simp only [tx,List.getD_eq_getElem?_getD,List.getElem?_cons_zero,List.getElem?_cons_succ,Option.getD_some]
  rw [rightS3,isRole_of (ho t0 (by simp)) (ho t2 (by simp)) k0 k2 (bl_mk _) (bl_mk _),isRole_of (ho t4 (by simp)) (ho t6 (by simp)) k4 k6 (bl_mk _) (bl_mk _),bl_mk,(ho t8 (by simp)).2 k8,eqSt_self];rfl
 rw [if_neg h3] at h ⊢
 by_cases h4:fitsS l sh4=l.length∧fitsS l sh4=11
 ·rw [if_pos h4]
  obtain ⟨a1,a2⟩:=h4
  obtain ⟨t0,t1,t2,t3,t4,t5,t6,t7,t8,t9,t10,rfl⟩:=len11 (a1.symm.trans a2)
  obtain ⟨k0,a2⟩:=fits_pos (n:=10) a2
  obtain ⟨k1,a2⟩:=fits_pos (n:=9) a2
  obtain ⟨k2,a2⟩:=fits_pos (n:=8) a2
  obtain ⟨k3,a2⟩:=fits_pos (n:=7) a2
  obtain ⟨k4,a2⟩:=fits_pos (n:=6) a2
  obtain ⟨k5,a2⟩:=fits_pos (n:=5) a2
  obtain ⟨k6,a2⟩:=fits_pos (n:=4) a2
  obtain ⟨k7,a2⟩:=fits_pos (n:=3) a2
  obtain ⟨k8,a2⟩:=fits_pos (n:=2) a2
  obtain ⟨k9,a2⟩:=fits_pos (n:=1) a2
  obtain ⟨k10,a2⟩:=fits_pos (n:=0) a2
  simp only [tx,List.getD_eq_getElem?_getD,List.getElem?_cons_zero,List.getElem?_cons_succ,Option.getD_some]
  exact right_normal _ _ _ (isRole_of (ho t0 (by simp)) (ho t2 (by simp)) k0 k2 (bl_mk _) (bl_mk _)) (isRole_of (ho t4 (by simp)) (ho t6 (by simp)) k4 k6 (bl_mk _) (bl_mk _)) (isRole_of (ho t8 (by simp)) (ho t10 (by simp)) k8 k10 (bl_mk _) (bl_mk _))
 rw [if_neg h4] at h
 unfold refEnd at h
 split at h <;> cases h
theorem parse_right (s:ByteArray) (h:(parseS s).2.2=0):rightS (parseS s).1=true:=by
 unfold parseS at h ⊢
 by_cases h0:(tokens (bl s)).2.2=0
 ·have e:parseT (tokens (bl s)) (endOf s)=refS (tokens (bl s)).1 (endOf s):=(parseT_good h0).trans (law_parse _ _)
  rw [e] at h ⊢
  exact refS_right _ _ (tokens_ok _) h
 ·rw [parseT_bad h0] at h;exact absurd h h0

theorem isP_len {lo hi:Int} {w:List UInt8} (h:isP lo hi w=true):1≤w.length∧w.length≤8:=by
 match w,h with
 | c :: w,h =>
  simp only [isP,Bool.and_eq_true,decide_eq_true_iff] at h
  exact ⟨by simp,h.1.1⟩
theorem isP_plain {lo hi:Int} {w:List UInt8} (h:isP lo hi w=true):∀ c∈w,¬ c=35:=by
 match w,h with
 | c :: w,h =>
  simp only [isP,Bool.and_eq_true,decide_eq_true_iff] at h
  intro x hx e
  have:=List.all_eq_true.1 h.2 x hx
  rw [e] at this
  exact absurd this (by decide)
theorem isRole_iff (o n:ByteArray):isRole ⟨o,n⟩=true↔isP 65 90 (bl o)=true∧isP 97 122 (bl n)=true:=by simp [isRole]
end
section
open Go.RowKit Go.Shelf

theorem sb_size:(Tryz.prog.info? 113).map (·.size)=some 2:=by kernel_rfl
theorem sb_lies:liesAt Tryz.prog Tryz.prog.depth 113 (2 / Tryz.prog.cellsOf 113) 0 113 1=true:=by kernel_rfl
theorem sb_byte:(Tryz.prog.info? 5).map (fun i=>(i.zero,i.size,i.bytes))=some (some (.int .u8 0),1,1):=by kernel_rfl

set_option maxRecDepth 100000 in
set_option maxHeartbeats 1000000 in
theorem sb_copyCheck_used (b:Nat) (w:World) (h0:w.cell? ⟨b,0,none⟩=some (.pointer (some ⟨b,0,none⟩))) :
  Calls Tryz.prog 134 #[.pointer (some ⟨b,0,none⟩)] w fun e w'=>e=.returned (.tuple #[])∧w'=w:=by
 obtain ⟨j,hj,_⟩:=Option.map_eq_some_iff.1 sb_size
 go_enter Tryz.func134,Tryz.ntmps134
 go_wp2
 rw [Lib.run_neq_ptr_same w _ Tryz.underlying110 hj]
 go_wp2
 go_end0
 exact ⟨rfl,rfl⟩

set_option maxRecDepth 100000 in
set_option maxHeartbeats 1000000 in
theorem sb_copyCheck_fresh (b:Nat) (w:World) (h0:w.cell? ⟨b,0,none⟩=some (.pointer none)) (hsh:w.shape? b=some (113,2)) (hfz:w.frozen? ⟨b,0,none⟩=false) :
  Calls Tryz.prog 134 #[.pointer (some ⟨b,0,none⟩)] w fun e w'=>e=.returned (.tuple #[])∧w'=w.setCell ⟨b,0,none⟩ (.pointer (some ⟨b,0,none⟩)):=by
 obtain ⟨j,hj,hjs⟩:=Option.map_eq_some_iff.1 sb_size
 go_enter Tryz.func134,Tryz.ntmps134
 go_wp2
 rw [Lib.run_to_unsafe w ⟨b,0,none⟩ Tryz.underlying110 Tryz.underlying221 hj (by rw [hjs];decide) hsh (Nat.zero_lt_succ 1)]
 simp only [Result.andThen]
 rw [Oper.upon_value]
 go_wp2
 rw [run_callFunc_extern Tryz.func203 (by kernel_rfl) (by kernel_rfl) (by kernel_rfl) (e:=Extern.AbiNoEscape.same) (by kernel_rfl)]
 rw [Lib.run_noEscape]
 simp only [Result.andThen]
 rw [Oper.upon_value]
 go_wp2
 rw [Lib.run_from_unsafe w ⟨b,0,none⟩ Tryz.underlying221 Tryz.underlying110 hj hsh sb_lies]
 simp only [Result.andThen]
 rw [Oper.upon_value]
 go_wp2
 go_end0
 exact ⟨rfl,rfl⟩

abbrev SbAt (B b:Nat) (l:List UInt8) (w:World):Prop:=Lib.IsBuilderF 113 5 B b (Lib.byteCells l) w

theorem sb_copyCheck (B b:Nat) (bs:List Value) (w:World) (h:Lib.IsBuilderF 113 5 B b bs w) :
  Calls Tryz.prog 134 #[.pointer (some ⟨b,0,none⟩)] w fun e w'=>e=.returned (.tuple #[])∧(Lib.BuilderAtF 113 5 B b (.pointer (some ⟨b,0,none⟩)) bs w'∧Below B w w'∧Lib.OthersKept 5 (some b) w w'):=by
 rcases h with h | h
 ·refine (sb_copyCheck_fresh b w h.cell0 h.shape h.frozen0).mono ?_
  rintro e w' ⟨rfl,rfl⟩
  exact ⟨rfl,h.used _,(Below.refl B w).setCell (p:=⟨b,0,none⟩) h.1 _,(Lib.OthersKept.refl _ _ w).setCell ⟨b,0,none⟩ rfl _⟩
 ·refine (sb_copyCheck_used b w h.cell0).mono ?_
  rintro e w' ⟨rfl,rfl⟩
  exact ⟨rfl,h,Below.refl B _,Lib.OthersKept.refl _ _ _⟩

theorem strCells_eq (s:ByteArray):Lib.strCells s=Lib.byteCells (bl s):=rfl

set_option maxHeartbeats 2000000 in
set_option maxRecDepth 100000 in
theorem sb_WriteString (B b:Nat) (l:List UInt8) (s:ByteArray) (w:World) (h:SbAt B b l w) (hlen:l.length+s.size≤140737488355328) (hBw:B≤w.heap.size) :
  Calls Tryz.prog 79 #[.pointer (some ⟨b,0,none⟩),.string s] w fun e w'=>e=.returned (.tuple #[.int .i64 s.size,.nilIface])∧(SbAt B b (l++bl s) w'∧Below B w w'∧Lib.OthersKept 5 (some b) w w'):=by
 obtain ⟨i0,hi,hz0,hz1,hz2⟩:=info_parts sb_byte
 have hlen':(Lib.byteCells l).length+s.size≤140737488355328:=by simpa [Lib.byteCells] using hlen
 have H:=Lib.hid h
 have HL:=Lib.hid hlen'
 clear h hlen hlen'
 go_enter Tryz.func79,Tryz.ntmps79
 go_wp2_with (go_at_call 134;refine (sb_copyCheck B b _ _ H.out).mono ?_)
 rintro e w1 ⟨rfl,h1,hb1,hk1⟩
 obtain ⟨hB,v,hbk,hown,hne⟩:=h1
 have c0:w1.cell? ⟨b,0,none⟩=some (.pointer (some ⟨b,0,none⟩)):=by rw [Lib.cell_of_heap hbk];rfl
 have c1:w1.cell? ⟨b,1,none⟩=some v:=by rw [Lib.cell_of_heap hbk];rfl
 go_wp2_with (at_builtin;refine Lib.wpList_append_own_stringF _ rfl _ _ 111 9 rfl B 5 i0 Tryz.underlying111 Tryz.underlying9 hi hz0 hz1 hz2 _ _ _ rfl hown s rfl ?c3 ?c4 ?c5 ?_)
 case c3=>have:=HL.out;unfold maxLen;omega
 case c4=>exact HL.out
 case c5=>have:=hb1.size;omega
 intro v' w2 hown' hgrow _
 have hlt:b < w1.heap.size:=by
  rcases Nat.lt_or_ge b w1.heap.size with h' | h'
  ·exact h'
  ·simp [Array.getElem?_eq_none h'] at hbk
 have hb2:w2.heap[b]? = some (.cells #[.pointer (some ⟨b,0,none⟩),v] 113 (0,0)):=by
  rw [hgrow.block b hlt (fun e=>hne e.symm)]
  exact hbk
 have d0:w2.cell? ⟨b,0,none⟩=some (.pointer (some ⟨b,0,none⟩)):=by rw [Lib.cell_of_heap hb2];rfl
 have d1:w2.cell? ⟨b,1,none⟩=some v:=by rw [Lib.cell_of_heap hb2];rfl
 have f1:w2.frozen? ⟨b,1,none⟩=false:=Lib.frozen_of_heap hb2 1
 obtain ⟨ao,n',cap,rfl⟩:∃ ao n' cap,v'=.slice ao n' cap:=by
  rcases hown'.2 with ⟨hv,_⟩ | ⟨g,cap,cur,fz,hv,_⟩
  ·exact ⟨_,_,_,hv⟩
  ·exact ⟨_,_,_,hv⟩
 go_wp2
 go_ret2
 refine ⟨rfl,?_,?_,(hk1.grown hgrow (Lib.ownsRowF_kind hown)).setCell ⟨b,1,none⟩ rfl _⟩
 ·have e1:Lib.byteCells (l++bl s)=Lib.byteCells l++Lib.strCells s:=by rw [strCells_eq];simp [Lib.byteCells]
  unfold SbAt
  rw [e1]
  exact .inr (Lib.BuilderAtF.put (T:=113) (e:=5) hB hb2 (bs':=Lib.byteCells l++Lib.strCells s) (by simpa [Lib.strCells_length] using hown') (by decide))
 ·exact (hb1.grown hgrow (by have:=hb1.size;omega) (fun k hk=>(hown.lt k hk).1)).setCell (p:=⟨b,1,none⟩) hB _
theorem sb_new (w:World) (B:Nat) (hB:B≤w.heap.size):SbAt B w.heap.size [] (w.alloc (.cells #[.pointer none,.slice none 0 0] 113)) :=
 .inl ⟨hB,.slice none 0 0,heap_new1 _ _,⟨by simp [Lib.byteCells],.inl ⟨rfl,rfl⟩⟩,by simp [Value.ownBlock]⟩
end
section
open Go.RowKit Go.Shelf

set_option maxHeartbeats 2000000 in
set_option maxRecDepth 1000000 in
theorem sb_grow_fresh (B b n:Nat) (w:World) (hB:B≤b) (hbk:w.heap[b]? = some (.cells #[.pointer (some ⟨b,0,none⟩),.slice none 0 0] 113 (0,0))) (hBw:B≤w.heap.size) (hn:n≤281474976710656) :
  Calls Tryz.prog 232 #[.pointer (some ⟨b,0,none⟩),.int .i64 n] w fun e w'=>e=.returned (.tuple #[])∧(Lib.BuilderAt 113 5 B b (.pointer (some ⟨b,0,none⟩)) [] w'∧Below B w w'):=by
 obtain ⟨i0,hi,hz0,hz1,hz2⟩:=info_parts sb_byte
 obtain ⟨cs,hrun,hle,hmax⟩:=Lib.run_makeNoZero (P:=Tryz.prog) w.drew #[3] 111 5 Tryz.underlying111 n hn
 have hw:IntKind.i64.wrap (IntKind.i64.wrap 0+(n:Int))=n:=by
  rw [IntKind.wrap_i64,IntKind.wrap_i64]
  omega
 have hcall:(callFunc 266 #[.int .i64 (IntKind.i64.wrap (IntKind.i64.wrap 0+(n:Int)))]).run Tryz.prog w.drew=.ok (.value (.slice (some ⟨w.drew.heap.size,0,none⟩) n cs.size)) (w.drew.drew.drew.alloc (.cells cs 5)):=by
  rw [hw,run_callFunc_extern Tryz.func266 (by kernel_rfl) (by kernel_rfl) (by kernel_rfl) (e:=Extern.BytealgMakeNoZero.makeNoZero #[3] #[111]) (by kernel_rfl),hrun]
  rfl
 have c1:w.drew.cell? ⟨b,1,none⟩=some (.slice none 0 0):=by
  have:w.drew.heap[b]? = _:=hbk
  rw [Lib.cell_of_heap this];rfl
 have c2:(w.alloc (.cells cs 5)).cell? ⟨b,1,none⟩=some (.slice none 0 0):=by
  have hlt:b < w.heap.size:=by
   rcases Nat.lt_or_ge b w.heap.size with h' | h'
   ·exact h'
   ·simp [Array.getElem?_eq_none h'] at hbk
  have:(w.alloc (.cells cs 5)).heap[b]? = _:=(Lib.alloc_old w _ b hlt).trans hbk
  rw [Lib.cell_of_heap this];rfl
 have f2:(w.alloc (.cells cs 5)).frozen? ⟨b,1,none⟩=false:=by
  have hlt:b < w.heap.size:=by
   rcases Nat.lt_or_ge b w.heap.size with h' | h'
   ·exact h'
   ·simp [Array.getElem?_eq_none h'] at hbk
  exact Lib.frozen_of_heap ((Lib.alloc_old w _ b hlt).trans hbk) 1
 have hcopy:∀ W:World,(Builtin.copy_ #[111,111] 3 #[.slice (some ⟨w.heap.size,0,none⟩) 0 cs.size,.slice none 0 0]).run Tryz.prog W=.ok (goInt 0) W :=
  fun W=>run_copy_none W 111 111 3 5 _ _ 0 cs.size 0 0 Tryz.underlying111 (by rw [hi];exact congrArg some hz1) rfl
 clear hw
 go_enter Tryz.func232,Tryz.ntmps232
 go_wp2
 have hfin:=Lib.grown_fresh (T:=113) (e:=5) (cs:=cs) hB hbk hBw (hmax (by unfold maxLen;omega)) (by decide)
 go_region
 all_goals (go_wp2;go_end0;exact ⟨rfl,hfin⟩)

set_option maxHeartbeats 2000000 in
set_option maxRecDepth 1000000 in
theorem sb_Grow_fresh (B b n:Nat) (w:World) (hB:B≤b) (hbk:w.heap[b]? = some (.cells #[.pointer none,.slice none 0 0] 113 (0,0))) (hBw:B≤w.heap.size) (hn:n≤281474976710656) :
  Calls Tryz.prog 173 #[.pointer (some ⟨b,0,none⟩),.int .i64 n] w fun e w'=>e=.returned (.tuple #[])∧(Lib.BuilderAt 113 5 B b (.pointer (some ⟨b,0,none⟩)) [] w'∧Below B w w'):=by
 have hbk1:(w.setCell ⟨b,0,none⟩ (.pointer (some ⟨b,0,none⟩))).heap[b]? = some (.cells #[.pointer (some ⟨b,0,none⟩),.slice none 0 0] 113 (0,0)):=by
  simp [World.setCell,Array.getElem?_modify,hbk]
 have c1:(w.setCell ⟨b,0,none⟩ (.pointer (some ⟨b,0,none⟩))).cell? ⟨b,1,none⟩=some (.slice none 0 0):=by rw [Lib.cell_of_heap hbk1];rfl
 have hb1:Below B w (w.setCell ⟨b,0,none⟩ (.pointer (some ⟨b,0,none⟩))):=(Below.refl B w).setCell (p:=⟨b,0,none⟩) hB _
 go_enter Tryz.func173,Tryz.ntmps173
 have hU:Lib.BuilderAt 113 5 B b (.pointer (some ⟨b,0,none⟩)) [] (w.setCell ⟨b,0,none⟩ (.pointer (some ⟨b,0,none⟩))):=⟨hB,.slice none 0 0,hbk1,World.ownsRow_nil _ _ _ _,by simp [Value.ownBlock]⟩
 have c1':(w.setCell ⟨b,0,none⟩ (.pointer (some ⟨b,0,none⟩))).drew.cell? ⟨b,1,none⟩=some (.slice none 0 0):=c1
 go_wp2_with (go_at_call 134;refine (sb_copyCheck_fresh b w (by rw [Lib.cell_of_heap hbk];rfl) (by simp [World.shape?,hbk]) (Lib.frozen_of_heap hbk 0)).mono ?_;rintro e w' ⟨rfl,rfl⟩)
 go_region
 all_goals go_wp2_with (go_at_call 232;refine (sb_grow_fresh B b n (w.setCell ⟨b,0,none⟩ (.pointer (some ⟨b,0,none⟩))).drew hB hbk1 (by simpa [World.setCell,World.drew,-World.drew_eq] using hBw) hn).mono ?_;rintro e w' ⟨rfl,h1,h2⟩)
 all_goals first
  | (go_end0;exact ⟨rfl,h1,hb1.drew.trans h2⟩)
  | (go_end0;exact ⟨rfl,hU.drew,hb1.drew⟩)

def joinB (xs:List ByteArray) (sep:ByteArray):ByteArray:=⟨(Lib.join (xs.map bl) (bl sep)).toArray⟩
set_option maxRecDepth 100000 in
set_option maxHeartbeats 1000000 in
theorem str_Join_none (a:Option Addr) (c:Nat) (sep:ByteArray) (w:World) :
  Calls Tryz.prog 120 #[.slice a 0 c,.string sep] w fun e w'=>e=.returned (.string ⟨#[]⟩)∧w'=w:=by
 go_enter Tryz.func120,Tryz.ntmps120
 go_wp2
 go_ret
 exact ⟨rfl,rfl⟩
set_option maxRecDepth 100000 in
set_option maxHeartbeats 1000000 in
theorem str_Join_one (bk o c:Nat) (x sep:ByteArray) (w:World) (hc:w.cell? ⟨bk,o,none⟩=some (.string x)) :
  Calls Tryz.prog 120 #[.slice (some ⟨bk,o,none⟩) 1 c,.string sep] w fun e w'=>e=.returned (.string x)∧w'=w:=by
 go_enter Tryz.func120,Tryz.ntmps120
 go_wp2
 go_ret
 exact ⟨rfl,rfl⟩
set_option maxHeartbeats 8000000 in
set_option maxRecDepth 100000 in
theorem str_Join_many (bk o c:Nat) (xs:List ByteArray) (sep:ByteArray) (w:World)
  (hcells:∀ (j:Nat) x,xs[j]? = some x→w.cell? ⟨bk,o+j,none⟩=some (.string x))
  (hbk:bk < w.heap.size) (h2:2≤xs.length) (hN:xs.length≤140737488355328) (hcap:xs.length≤c)
  (hlen:(Lib.join (xs.map (·.data.toList)) sep.data.toList).length≤140737488355328) :
  Calls Tryz.prog 120 #[.slice (some ⟨bk,o,none⟩) xs.length c,.string sep] w fun e w'=>e=.returned (.string ⟨(Lib.join (xs.map (·.data.toList)) sep.data.toList).toArray⟩)∧Below w.heap.size w w':=by
 have HC:=Any.hidJ hcells
 clear hcells
 obtain ⟨x0,r,hxs⟩:∃ x0 r,xs=x0 :: r:=by
  cases xs with
  | nil=>simp at h2
  | cons a t=>exact ⟨a,t,rfl⟩
 have hjl:sep.size * (xs.length - 1)+Lib.lens (xs.map (·.data.toList))≤140737488355328:=by
  have:=Lib.join_length x0.data.toList (r.map (·.data.toList)) sep.data.toList
  rw [hxs] at hlen ⊢
  simp only [List.map_cons] at hlen ⊢
  rw [this,List.length_map] at hlen
  rw [Lib.size_eq,List.length_cons,Nat.add_sub_cancel]
  exact hlen
 have hmul:sep.size * (xs.length - 1)≤140737488355328:=by omega
 generalize hM:sep.size * (xs.length - 1)=M at hjl hmul
 have hcast:((xs.length:Int) - 1)=((xs.length - 1:Nat):Int):=by omega
 have hlt:sep.size < 9223372036854775807 / (xs.length - 1):=by
  have:sep.size+1≤9223372036854775807 / (xs.length - 1):=by
   rw [Nat.le_div_iff_mul_le (by omega),Nat.add_mul,hM]
   omega
  omega
 have hdv:¬ (9223372036854775807 / ((xs.length:Int) - 1)≤(sep.size:Int)):=by
  have e:(9223372036854775807:Int) / ((xs.length - 1:Nat):Int)=((9223372036854775807 / (xs.length - 1):Nat):Int):=IntWalk.up_div (x:=9223372036854775807) rfl rfl
  rw [hcast,e]
  generalize 9223372036854775807 / (xs.length - 1)=q at hlt
  omega
 have hprod:wrap64 ((sep.size:Int) * ((xs.length:Int) - 1))=(M:Int):=by
  have e:(sep.size:Int) * ((xs.length - 1:Nat):Int)=((sep.size * (xs.length - 1):Nat):Int):=IntWalk.up_mul rfl rfl
  rw [hcast,e,hM]
  exact IntWalk.wrap64_in _ ⟨by omega,by omega⟩
 have hM0:sep.size=0→M=0:=fun h=>by rw [← hM,h,Nat.zero_mul]
 clear hlt hcast
 have hne0:((xs.length:Int) == 0)=false:=beq_eq_false_iff_ne.2 (by omega)
 have hne1:((xs.length:Int) == 1)=false:=beq_eq_false_iff_ne.2 (by omega)
 have Hxs:=Any.hidJ hxs
 have Hlen:=Any.hidJ hlen
 clear hxs hlen
 go_enter Tryz.func120,Tryz.ntmps120
 go_wp2_with fail
 all_goals (
  go_loop [5,41] (fun n i => ∃ k:Nat,k≤xs.length∧i=.int .i64 k∧n=.int .i64 ((M+Lib.lens ((xs.map (·.data.toList)).take k):Nat):Int)) (fun _ i=>xs.length - (intOf i).toNat)
  case atStart=>exact ⟨0,Nat.zero_le _,rfl,by first | (simp [Lib.lens];done) | (have:=hM0 (by omega);simp [Lib.lens,this])⟩
  case round =>
   obtain ⟨k,hk,rfl,rfl⟩:=hrel
   by_cases hkn:k < xs.length
   ·obtain ⟨x,hx⟩:∃ x,xs[k]? = some x:=⟨xs[k],List.getElem?_eq_getElem hkn⟩
    have hc:=HC.out k x hx
    have hstep:=Lib.lens_take_succ (xs.map (·.data.toList)) k x.data.toList (by simp [hx])
    have hbound:Lib.lens ((xs.map (·.data.toList)).take (k+1))≤Lib.lens (xs.map (·.data.toList)):=Lib.lens_take_le _ _
    rw [← Lib.size_eq] at hstep
    generalize hA1:Lib.lens ((xs.map (·.data.toList)).take (k+1))=A1 at hstep hbound
    generalize Lib.lens ((xs.map (·.data.toList)).take k)=A0 at hstep
    have HA1:=Any.hidJ hA1
    clear hA1
    go_wp2
    exact ⟨⟨k+1,by omega,by go_num,by rw [HA1.out];refine congrArg _ ?_;omega⟩,by simp [intOf];omega⟩
   ·have hke:k=xs.length:=by omega
    subst hke
    have hall:(xs.map (·.data.toList)).take xs.length=xs.map (·.data.toList):=List.take_of_length_le (by simp)
    rw [hall]
    generalize hT:Lib.lens (xs.map (·.data.toList))=T at hjl
    have HT:=Any.hidJ hT
    clear hT hall
    go_wp2_with fail
    have hMT:((M:Int)+(T:Int))=((M+T:Nat):Int):=by omega
    rw [hMT]
    refine (sb_Grow_fresh w.heap.size w.heap.size (M+T) _ (Nat.le_refl _) (heap_alloc_new w _) (by simp) (by omega)).mono ?_
    rintro e w1 ⟨rfl,h1,hb1⟩
    have hb1':Below w.heap.size w w1:=((Below.refl w.heap.size w).alloc (Nat.le_refl _) _).trans hb1
    have hx0:xs[0]? = some x0:=by rw [Hxs.out];rfl
    have hc0:w1.cell? ⟨bk,o,none⟩=some (.string x0):=by
     rw [hb1'.cell (p:=⟨bk,o,none⟩) hbk]
     exact HC.out 0 x0 hx0
    have H1:=Any.hidJ (Or.inr (Lib.BuilderAtF.of h1):SbAt w.heap.size w.heap.size [] w1)
    have Hb1:=Any.hidJ hb1'
    have hBw1:w.heap.size≤w1.heap.size:=hb1'.size
    clear h1 hb1 hb1' hMT
    have hwhole:Lib.join (xs.map (·.data.toList)) sep.data.toList=x0.data.toList++Lib.joinTail sep.data.toList (r.map (·.data.toList)):=by
     rw [Hxs.out,List.map_cons,Lib.join_cons]
    have hCle:∀ k,(x0.data.toList++Lib.joinTail sep.data.toList ((r.map (·.data.toList)).take k)).length≤140737488355328:=fun k=>by
     have h1:=Hlen.out
     rw [hwhole,List.length_append] at h1
     have h2:=Lib.joinTail_take_le sep.data.toList (r.map (·.data.toList)) k
     rw [List.length_append]
     omega
    have HCle:=Any.hidJ hCle
    have Hwhole:=Any.hidJ hwhole
    clear hCle hwhole
    go_wp2_with fail
    refine (sb_WriteString w.heap.size w.heap.size [] x0 w1 H1.out (by have:=HCle.out 0;simp [Lib.joinTail] at this ⊢;omega) hBw1).mono ?_
    rintro e w2 ⟨rfl,h2',hb2,_⟩
    have hstart:([]:List UInt8)++bl x0=x0.data.toList++Lib.joinTail sep.data.toList ((r.map (·.data.toList)).take 0):=by
     simp [Lib.joinTail,bl]
    rw [hstart] at h2'
    have H2:=Any.hidJ h2'
    have Hb2:=Any.hidJ (Hb1.out.trans hb2)
    clear h2' hb2 hstart
    have hrl:r.length=xs.length - 1:=by rw [Hxs.out];simp
    go_wp2_with fail
    go_loopw [65] (fun i wr => ∃ k:Nat,k≤r.length∧i=.int .i64 k∧Hid (SbAt w.heap.size w.heap.size (x0.data.toList++Lib.joinTail sep.data.toList ((r.map (·.data.toList)).take k)) wr)∧Hid (Below w.heap.size w wr)) (fun i _=>r.length - (intOf i).toNat)
    case atStart=>exact ⟨0,Nat.zero_le _,rfl,H2,Hb2⟩
    case round =>
     obtain ⟨k,hk',rfl,HB,HW⟩:=hrel
     by_cases hkr:k < r.length
     ·obtain ⟨y,hy⟩:∃ y,r[k]? = some y:=⟨r[k],List.getElem?_eq_getElem hkr⟩
      have hxy:xs[k+1]? = some y:=by rw [Hxs.out];simpa using hy
      have hcy:wr.cell? ⟨bk,o+1+k,none⟩=some (.string y):=by
       rw [HW.out.cell (p:=⟨bk,o+1+k,none⟩) hbk,show o+1+k=o+(k+1) by omega]
       exact HC.out (k+1) y hxy
      have hBw:w.heap.size≤wr.heap.size:=HW.out.size
      have hnext:x0.data.toList++Lib.joinTail sep.data.toList ((r.map (·.data.toList)).take k)++bl sep++bl y=x0.data.toList++Lib.joinTail sep.data.toList ((r.map (·.data.toList)).take (k+1)):=by
       rw [Lib.joinTail_take_succ sep.data.toList (r.map (·.data.toList)) k y.data.toList (by simp [hy])]
       simp only [bl,List.append_assoc]
      have hl1:=HCle.out (k+1)
      rw [Lib.joinTail_take_succ sep.data.toList (r.map (·.data.toList)) k y.data.toList (by simp [hy])] at hl1
      simp only [List.length_append,← Lib.size_eq] at hl1
      have hl0:(x0.data.toList++Lib.joinTail sep.data.toList ((r.map (·.data.toList)).take k)).length=x0.size+(Lib.joinTail sep.data.toList ((r.map (·.data.toList)).take k)).length:=by
       rw [List.length_append,← Lib.size_eq]
      have hl2:(x0.data.toList++Lib.joinTail sep.data.toList ((r.map (·.data.toList)).take k)++bl sep).length=x0.size+(Lib.joinTail sep.data.toList ((r.map (·.data.toList)).take k)).length+sep.size:=by
       rw [List.length_append,hl0,Lib.size_eq sep]
      generalize (Lib.joinTail sep.data.toList ((r.map (·.data.toList)).take k)).length=J at hl0 hl1 hl2
      have Hn:=Any.hidJ hnext
      have HL0:=Any.hidJ hl0
      have HL2:=Any.hidJ hl2
      clear hnext hy hxy hl0 hl2
      go_wp2_with fail
      refine (sb_WriteString w.heap.size w.heap.size _ sep wr HB.out (by rw [HL0.out];omega) hBw).mono ?_
      rintro e w3 ⟨rfl,h3,hb3,_⟩
      have hBw3:w.heap.size≤w3.heap.size:=Nat.le_trans hBw hb3.size
      have H3:=Any.hidJ h3
      have Hb3:=Any.hidJ hb3
      clear h3 hb3
      go_wp2_with fail
      refine (sb_WriteString w.heap.size w.heap.size _ y w3 H3.out (by rw [HL2.out];omega) hBw3).mono ?_
      rintro e w4 ⟨rfl,h4,hb4,_⟩
      rw [Hn.out] at h4
      have H4:=Any.hidJ h4
      have Hb4:=Any.hidJ ((HW.out.trans Hb3.out).trans hb4)
      clear h4 hb4
      go_wp2
      exact ⟨⟨k+1,by omega,by go_num,H4,Hb4⟩,by simp [intOf];omega⟩
     ·have hke:k=r.length:=by omega
      subst hke
      have hfull:(r.map (·.data.toList)).take r.length=r.map (·.data.toList):=List.take_of_length_le (by simp)
      have hB':=HB.out
      rw [hfull,← Hwhole.out] at hB'
      have hBw:w.heap.size≤wr.heap.size:=HW.out.size
      go_wp2_with fail
      refine (Tryz.Builder_String_any_f w.heap.size w.heap.size _ wr hB' hBw).mono ?_
      rintro e w5 ⟨rfl,_,hb5⟩
      have Hb5:=Any.hidJ (HW.out.trans hb5)
      clear hb5 hB'
      go_wp2
      go_ret
      exact ⟨rfl,Hb5.out⟩)
theorem joinB_one (x sep:ByteArray):joinB [x] sep=x:=by unfold joinB;rw [List.map_cons,List.map_nil,Lib.join_one]
end
section
open Go.RowKit

def wordsL (k:Int):List ByteArray:=if k=1 then [wHas] else if k=2 then [wHave] else if k=3 then [wWithin] else if k=4 then [wBe,wEmpty] else if k=5 then [wApart] else if k=6 then [wIn] else []
def headW (k:Int):ByteArray:=if univB k=true then wAlways else wCan
def partsQ (q:Qd):List ByteArray:=headW q.k :: roleT q.a :: (wordsL q.k++((if secB q.k=true then [roleT q.b] else [])++q.us))
def tailL (xs:List ByteArray):List UInt8:=(xs.map (fun x=>32 :: bl x)).flatten
theorem tailL_app (xs ys:List ByteArray):tailL (xs++ys)=tailL xs++tailL ys:=by simp [tailL]
theorem tailL_cons (x:ByteArray) (xs:List ByteArray):tailL (x :: xs)=32 :: (bl x++tailL xs):=by simp [tailL]
theorem word_isP':∀ x∈[wAlways,wCan,wHas,wHave,wWithin,wBe,wEmpty,wApart,wIn],isP 97 122 (bl x)=true:=by decide
def lineQ (q:Qd):List UInt8:=bl (headW q.k)++tailL (roleT q.a :: (wordsL q.k++((if secB q.k=true then [roleT q.b] else [])++q.us)))
theorem parts_line (q:Qd):bl (joinB (partsQ q) ⟨#[32]⟩)=lineQ q:=by
 unfold joinB partsQ lineQ tailL
 rw [List.map_cons,Lib.join_cons,bl_mk]
 unfold Lib.joinTail
 rw [List.map_map]
 rfl
end
section
open Go.RowKit

structure GoodQ (q:Qd):Prop where
 lo:1≤q.k
 hi:q.k≤6
 a:isRole q.a=true
 p:∀ x∈q.us,isP 65 90 (bl x)=true
 asc:AscB q.us
 few:q.us.length≤12
 two:5≤q.k→isRole q.b=true
 one:¬ 5≤q.k→q.b=noR
 none:4≤q.k→q.us=[]
 some:q.k≤2→¬ q.us.length=0
theorem isP_size' {lo hi:Int} {x:ByteArray} (h:isP lo hi (bl x)=true):x.size≤8:=by have:=(isP_len h).2;rwa [bl_len] at this
theorem tailL_len (M:Nat):∀ (xs:List ByteArray),(∀ x∈xs,x.size≤M)→(tailL xs).length≤xs.length * (M+1)
 | [],_=>by simp [tailL]
 | x :: r,h=>by
  have h1:=tailL_len M r (fun y hy=>h y (by simp [hy]))
  have h2:=h x (by simp)
  rw [tailL_cons,List.length_cons,List.length_append,bl_len,List.length_cons,Nat.succ_mul]
  omega
theorem tailL_plain:∀ (xs:List ByteArray),(∀ x∈xs,∀ c∈bl x,¬ c=35)→∀ c∈tailL xs,¬ c=35
 | [],_=>fun c hc=>by cases hc
 | x :: r,h=>fun c hc=>by
  rw [tailL_cons] at hc
  rcases List.mem_cons.1 hc with rfl | hc
  ·decide
  rcases List.mem_append.1 hc with hc | hc
  ·exact h x (by simp) c hc
  ·exact tailL_plain r (fun y hy=>h y (by simp [hy])) c hc
theorem role_plain {x:Rl} (h:isRole x=true):∀ c∈bl (roleT x),¬ c=35:=by
 simp only [isRole,Bool.and_eq_true] at h
 have e:bl (roleT x)=bl x.o++46 :: bl x.n:=by simp [roleT,bl]
 intro c hc
 rw [e] at hc
 rcases List.mem_append.1 hc with hc | hc
 ·exact isP_plain h.1 c hc
 rcases List.mem_cons.1 hc with rfl | hc
 ·decide
 ·exact isP_plain h.2 c hc
theorem role_size {x:Rl} (h:isRole x=true):(roleT x).size≤17:=by
 simp only [isRole,Bool.and_eq_true] at h
 have h1:=isP_size' h.1
 have h2:=isP_size' h.2
 have e:(⟨#[46]⟩:ByteArray).size=1:=rfl
 simp only [roleT,ByteArray.size_append,e]
 omega
theorem words_len (k:Int):(tailL (wordsL k)).length≤9:=by
 unfold wordsL
 split
 ·decide
 split
 ·decide
 split
 ·decide
 split
 ·decide
 split
 ·decide
 split <;> decide
theorem words_plain (k:Int):∀ c∈tailL (wordsL k),¬ c=35:=by
 unfold wordsL
 split
 ·decide
 split
 ·decide
 split
 ·decide
 split
 ·decide
 split
 ·decide
 split <;> decide
theorem lineQ_app (q:Qd):lineQ q=bl (headW q.k)++(32 :: (bl (roleT q.a)++(tailL (wordsL q.k)++(tailL (if secB q.k=true then [roleT q.b] else [])++tailL q.us)))):=by
 unfold lineQ
 rw [tailL_cons,tailL_app,tailL_app]
theorem lineQ_plain (q:Qd) (h:GoodQ q):∀ c∈lineQ q,¬ c=35:=by
 rw [lineQ_app]
 intro c hc
 rcases List.mem_append.1 hc with hc | hc
 ·unfold headW at hc
  split at hc
  ·exact isP_plain (word_isP' _ (by simp)) c hc
  ·exact isP_plain (word_isP' _ (by simp)) c hc
 rcases List.mem_cons.1 hc with rfl | hc
 ·decide
 rcases List.mem_append.1 hc with hc | hc
 ·exact role_plain h.a c hc
 rcases List.mem_append.1 hc with hc | hc
 ·exact words_plain _ c hc
 rcases List.mem_append.1 hc with hc | hc
 ·refine tailL_plain _ (fun x hx=>?_) c hc
  split at hx
  ·rename_i hs
   rw [List.mem_singleton.1 hx]
   refine role_plain (h.two ?_)
   unfold secB at hs
   simp only [Bool.or_eq_true,decide_eq_true_iff] at hs
   omega
  ·cases hx
 ·exact tailL_plain _ (fun x hx=>isP_plain (h.p x hx)) c hc
theorem lineQ_len (q:Qd) (h:GoodQ q):(lineQ q).length≤200:=by
 rw [lineQ_app]
 have h1:(bl (headW q.k)).length≤6:=by unfold headW;split <;> decide
 have h2:=role_size h.a
 have h3:=words_len q.k
 have h4:(tailL (if secB q.k=true then [roleT q.b] else [])).length≤18:=by
  split
  ·rename_i hs
   have hb:=h.two (by unfold secB at hs;simp only [Bool.or_eq_true,decide_eq_true_iff] at hs;omega)
   have:=role_size hb
   rw [tailL_cons]
   simp only [List.length_cons,List.length_append,bl_len]
   have e:(tailL []).length=0:=rfl
   omega
  ·exact Nat.zero_le _
 have h5:=tailL_len 8 q.us (fun x hx=>isP_size' (h.p x hx))
 have h6:=h.few
 simp only [List.length_append,List.length_cons,bl_len] at h1 ⊢
 omega
theorem fit_pos {k:Int} {i n:Nat} {l:List Tok} (h:fitQ k i l=n+1):∃ t r,l=t :: r∧goesQ k i t=true∧fitQ k (i+1) r=n:=by
 match l,h with
 | [],h=>rw [fitQ_nil] at h;cases h
 | t :: r,h =>
  rw [fitQ_cons] at h
  by_cases hg:i < frontQ k∧goesQ k i t=true
  ·rw [if_pos hg] at h
   exact ⟨t,r,rfl,hg.2,by omega⟩
  ·rw [if_neg hg] at h;cases h
theorem okTok1 {t:Tok} (h:okTok t) (hk:t.kind=1):isP 65 90 (bl t.tx)=true:=h.1 hk
theorem okTok2 {t:Tok} (h:okTok t) (hk:t.kind=2):isP 97 122 (bl t.tx)=true:=h.2 hk
theorem okRole {t s:Tok} (h:okTok t) (hs:okTok s) (hk:t.kind=1) (hk2:s.kind=2):isRole ⟨t.tx,s.tx⟩=true:=by
 unfold isRole
 rw [okTok1 h hk,okTok2 hs hk2];rfl
theorem rest_good (k:Int) (a b:Rl) (e:Int):∀ (l:List Tok) (acc:List ByteArray) (q:Qd) (p:Int),(∀ t∈l,okTok t)→AscB acc→(∀ x∈acc,isP 65 90 (bl x)=true)→acc.length≤12→restQ k ⟨k,a,b,acc⟩ e l=(q,p,0) →
  p=0∧q.k=k∧q.a=a∧q.b=b∧AscB q.us∧(∀ x∈q.us,isP 65 90 (bl x)=true)∧q.us.length≤12∧(k≤2→¬ q.us.length=0)∧(4≤k→q.us=acc)
 | [],acc,q,p,_,ha,hp,hn,h=>by
  rw [restQ] at h
  by_cases hc:k≤2∧acc.length=0
  ·rw [if_pos hc] at h
   simp only [Prod.mk.injEq] at h
   exact absurd h.2.2 (by decide)
  ·rw [if_neg hc] at h
   simp only [Prod.mk.injEq] at h
   obtain ⟨rfl,h2,_⟩:=h
   exact ⟨h2.symm,rfl,rfl,rfl,ha,hp,hn,fun h=>fun h'=>hc ⟨h,h'⟩,fun _=>rfl⟩
 | t :: l,acc,q,p,ho,ha,hp,hn,h=>by
  rw [restQ] at h
  by_cases hc:k≤3∧t.kind=1
  ·rw [if_pos hc] at h
   dsimp only at h
   by_cases hm:12 < (insSB acc t.tx).length
   ·rw [if_pos hm] at h
    simp only [Prod.mk.injEq] at h
    exact absurd h.2.2 (by decide)
   ·rw [if_neg hm] at h
    obtain ⟨e1,e2,e3,e4,e5,e6,e7,e8,_⟩:=rest_good k a b e l (insSB acc t.tx) q p (fun x hx=>ho x (by simp [hx])) (insS_ascB ha _) (fun x hx=>by
     rcases (insS_memB acc t.tx x).1 hx with hx | rfl
     ·exact hp x hx
     ·exact okTok1 (ho t (by simp)) hc.2) (by omega) h
    exact ⟨e1,e2,e3,e4,e5,e6,e7,e8,fun h=>by omega⟩
  ·rw [if_neg hc] at h
   simp only [Prod.mk.injEq] at h
   exact absurd h.2.2 (by decide)
theorem read_good (l:List Tok) (e:Int) (ho:∀ t∈l,okTok t) (q:Qd) (p:Int) (h:readQ l e=(q,p,0)):GoodQ q∧p=0:=by
 rw [law_query] at h
 have five:∀ k:Int,k=1∨k=2∨k=3→fitQ k 0 l=5→kindQ k l e=(q,p,0)→GoodQ q∧p=0:=fun k hk hf h=>by
  obtain ⟨t0,l0,rfl,g0',hf⟩:=fit_pos hf
  obtain ⟨t1,l1,rfl,g1',hf⟩:=fit_pos hf
  obtain ⟨t2,l2,rfl,g2',hf⟩:=fit_pos hf
  obtain ⟨t3,l3,rfl,g3',hf⟩:=fit_pos hf
  obtain ⟨t4,l4,rfl,g4',hf⟩:=fit_pos hf
  rw [g1] at g1'
  rw [g3] at g3'
  have hfr:frontQ k=5:=by rcases hk with rfl | rfl | rfl <;> rfl
  unfold kindQ at h
  rw [hfr,if_neg (by omega)] at h
  have hr:=okRole (ho t1 (by simp)) (ho t3 (by simp)) (of_decide_eq_true g1') (of_decide_eq_true g3')
  obtain ⟨e1,e2,e3,e4,e5,e6,e7,e8,e9⟩:=rest_good k _ _ e l4 [] q p (fun x hx=>ho x (by simp [hx])) List.Pairwise.nil (fun x hx=>by cases hx) (by simp) h
  exact ⟨⟨by omega,by omega,by rw [e3];exact hr,e6,e5,e7,fun h=>by omega,fun _=>e4,fun h=>by omega,fun h=>e8 (by omega)⟩,e1⟩
 have eight:∀ k:Int,k=5∨k=6→fitQ k 0 l=8→kindQ k l e=(q,p,0)→GoodQ q∧p=0:=fun k hk hf h=>by
  obtain ⟨t0,l0,rfl,g0',hf⟩:=fit_pos hf
  obtain ⟨t1,l1,rfl,g1',hf⟩:=fit_pos hf
  obtain ⟨t2,l2,rfl,g2',hf⟩:=fit_pos hf
  obtain ⟨t3,l3,rfl,g3',hf⟩:=fit_pos hf
  obtain ⟨t4,l4,rfl,g4',hf⟩:=fit_pos hf
  obtain ⟨t5,l5,rfl,g5',hf⟩:=fit_pos hf
  obtain ⟨t6,l6,rfl,g6',hf⟩:=fit_pos hf
  obtain ⟨t7,l7,rfl,g7',hf⟩:=fit_pos hf
  rw [g1] at g1'
  rw [g3] at g3'
  rw [g5] at g5'
  rw [g7] at g7'
  have d4:decide (k=4)=false:=by rw [decide_eq_false_iff_not];omega
  have d5:decide (5≤k)=true:=by rw [decide_eq_true_iff];omega
  rw [d4,d5,Bool.false_and,Bool.false_or,Bool.true_and] at g5'
  rw [d5,Bool.true_and] at g7'
  have hfr:frontQ k=8:=by rcases hk with rfl | rfl <;> rfl
  unfold kindQ at h
  rw [hfr,if_pos (by omega)] at h
  have hr:=okRole (ho t1 (by simp)) (ho t3 (by simp)) (of_decide_eq_true g1') (of_decide_eq_true g3')
  have hr2:=okRole (ho t5 (by simp)) (ho t7 (by simp)) (of_decide_eq_true g5') (of_decide_eq_true g7')
  obtain ⟨e1,e2,e3,e4,e5,e6,e7,e8,e9⟩:=rest_good k _ _ e l7 [] q p (fun x hx=>ho x (by simp [hx])) List.Pairwise.nil (fun x hx=>by cases hx) (by simp) h
  exact ⟨⟨by omega,by omega,by rw [e3];exact hr,e6,e5,e7,fun _=>by rw [e4];exact hr2,fun h=>by omega,fun h=>e9 (by omega),fun h=>by omega⟩,e1⟩
 unfold refQ at h
 by_cases f1':fitQ 1 0 l=5
 ·rw [if_pos f1'] at h;exact five 1 (by simp) f1' h
 rw [if_neg f1'] at h
 by_cases f2':fitQ 2 0 l=5
 ·rw [if_pos f2'] at h;exact five 2 (by simp) f2' h
 rw [if_neg f2'] at h
 by_cases f3':fitQ 3 0 l=5
 ·rw [if_pos f3'] at h;exact five 3 (by simp) f3' h
 rw [if_neg f3'] at h
 by_cases f4':fitQ 4 0 l=6
 ·rw [if_pos f4'] at h
  obtain ⟨t0,l0,rfl,g0',hf⟩:=fit_pos f4'
  obtain ⟨t1,l1,rfl,g1',hf⟩:=fit_pos hf
  obtain ⟨t2,l2,rfl,g2',hf⟩:=fit_pos hf
  obtain ⟨t3,l3,rfl,g3',hf⟩:=fit_pos hf
  obtain ⟨t4,l4,rfl,g4',hf⟩:=fit_pos hf
  obtain ⟨t5,l5,rfl,g5',hf⟩:=fit_pos hf
  rw [g1] at g1'
  rw [g3] at g3'
  unfold kindQ at h
  rw [f4,if_neg (by decide)] at h
  have hr:=okRole (ho t1 (by simp)) (ho t3 (by simp)) (of_decide_eq_true g1') (of_decide_eq_true g3')
  obtain ⟨e1,e2,e3,e4,e5,e6,e7,e8,e9⟩:=rest_good 4 _ _ e l5 [] q p (fun x hx=>ho x (by simp [hx])) List.Pairwise.nil (fun x hx=>by cases hx) (by simp) h
  exact ⟨⟨by omega,by omega,by rw [e3];exact hr,e6,e5,e7,fun h=>by omega,fun _=>e4,fun _=>e9 (by omega),fun h=>by omega⟩,e1⟩
 rw [if_neg f4'] at h
 by_cases f5':fitQ 5 0 l=8
 ·rw [if_pos f5'] at h;exact eight 5 (by simp) f5' h
 rw [if_neg f5'] at h
 by_cases f6':fitQ 6 0 l=8
 ·rw [if_pos f6'] at h;exact eight 6 (by simp) f6' h
 rw [if_neg f6'] at h
 unfold endQ at h
 split at h <;> simp only [Prod.mk.injEq] at h <;> exact absurd h.2.2 (by decide)
def parseQT (t:List Tok × Int × Int) (e:Int):Qd × Int × Int:=if t.2.2≠0 then (noQd,t.2.1,t.2.2) else readQ t.1 e
def parseQ (s:ByteArray):Qd × Int × Int:=parseQT (tokens (bl s)) (endOf s)
def textQ (q:Qd):ByteArray:=joinB (partsQ q) ⟨#[32]⟩
theorem parse_goodQ (s:ByteArray) (h:(parseQ s).2.2=0):GoodQ (parseQ s).1∧(parseQ s).2.1=0:=by
 unfold parseQ parseQT at h ⊢
 by_cases h0:(tokens (bl s)).2.2=0
 ·rw [if_neg (fun x=>x h0)] at h ⊢
  exact read_good _ (endOf s) (tokens_ok _) _ _ (Prod.ext rfl (Prod.ext rfl h))
 ·rw [if_pos h0] at h
  exact absurd h h0
theorem textQ_size (q:Qd) (h:GoodQ q):(textQ q).size≤200:=by
 have:=lineQ_len q h
 rw [← bl_len]
 unfold textQ
 rw [parts_line]
 exact this
end
section
open Go.RowKit Go.Shelf

theorem rises_asc {us:List ByteArray} (h:rises us=true):(∀ x∈us,isP 65 90 (bl x)=true)∧AscB us:=by
 unfold rises at h
 rw [List.all_eq_true] at h
 have h':∀ i,i < us.length→risesAt us i=true:=fun i hi=>h i (List.mem_range.2 hi)
 refine ⟨fun x hx=>?_,?_⟩
 ·obtain ⟨i,hi,rfl⟩:=List.getElem_of_mem hx
  have:=h' i hi
  unfold risesAt at this
  rw [Bool.and_eq_true,getD_at hi] at this
  exact this.1
 ·have adj:∀ i (hi:i+1 < us.length),cmpS us[i] us[i+1] < 0:=fun i hi=>by
   have:=h' (i+1) hi
   unfold risesAt at this
   rw [Bool.and_eq_true,Bool.or_eq_true,getD_at hi] at this
   rcases this.2 with e | e
   ·exact absurd (of_decide_eq_true e) (by omega)
   ·rw [Nat.add_sub_cancel,getD_at (by omega),← str_less,decide_eq_true_iff] at e
    exact e
  have far:∀ d i (hi:i+d+1 < us.length),cmpS us[i] us[i+d+1] < 0:=by
   intro d
   induction d with
   | zero=>exact fun i hi=>adj i hi
   | succ d ih=>exact fun i hi=>lt_trans'B (ih i (by omega)) (adj (i+d+1) hi)
  exact List.pairwise_iff_getElem.2 fun i j hi hj hij=>by
   obtain ⟨d,rfl⟩:∃ d,j=i+d+1:=⟨j - i - 1,by omega⟩
   exact far d i hj
theorem rises_of {us:List ByteArray} (hp:∀ x∈us,isP 65 90 (bl x)=true) (ha:AscB us):rises us=true:=by
 refine rises_yes (k:=us.length) (by omega) (fun j hj=>?_)
 unfold risesAt
 rw [getD_at hj,hp _ (List.getElem_mem hj),Bool.true_and,Bool.or_eq_true]
 by_cases h0:j=0
 ·exact .inl (decide_eq_true h0)
 ·refine .inr ?_
  rw [getD_at (by omega),← str_less,decide_eq_true_iff]
  exact List.pairwise_iff_getElem.1 ha (j - 1) j (by omega) hj (by omega)
theorem good_of {q:Qv} {us:List ByteArray} (h:rightQ q us=true):GoodQ ⟨q.k,q.a,q.b,us⟩:=by
 unfold rightQ at h
 simp only [Bool.and_eq_true,decide_eq_true_iff] at h
 obtain ⟨h1,h6,ha,hr,h⟩:=h
 obtain ⟨hp,hasc⟩:=rises_asc hr
 by_cases h5:5≤q.k
 ·rw [if_pos h5] at h
  simp only [Bool.and_eq_true,decide_eq_true_iff] at h
  obtain ⟨hb,hl⟩:=h
  exact ⟨h1,h6,ha,hp,hasc,by show us.length≤12;omega,fun _=>hb,fun h=>absurd h5 h,fun _=>List.eq_nil_of_length_eq_zero hl,fun h=>by dsimp only at h;omega⟩
 ·rw [if_neg h5] at h
  simp only [Bool.and_eq_true,decide_eq_true_iff,eqRl] at h
  obtain ⟨hb,hl,h⟩:=h
  by_cases h4:q.k=4
  ·rw [if_pos h4,decide_eq_true_iff] at h
   exact ⟨h1,h6,ha,hp,hasc,hl,fun h=>absurd h h5,fun _=>hb,fun _=>List.eq_nil_of_length_eq_zero h,fun h=>by dsimp only at h;omega⟩
  ·rw [if_neg h4,Bool.or_eq_true,decide_eq_true_iff,decide_eq_true_iff] at h
   exact ⟨h1,h6,ha,hp,hasc,hl,fun h=>absurd h h5,fun _=>hb,fun h=>by dsimp only at h;omega,fun hk=>by
    dsimp only at hk ⊢
    rcases h with h | h
    ·omega
    ·omega⟩
theorem right_of {q:Qv} {us:List ByteArray} (h:GoodQ ⟨q.k,q.a,q.b,us⟩):rightQ q us=true:=by
 obtain ⟨h1,h6,ha,hp,hasc,hfew,htwo,hone,hnone,hsome⟩:=h
 dsimp only at h1 h6 ha hp hasc hfew htwo hone hnone hsome
 unfold rightQ
 rw [decide_eq_true h1,decide_eq_true h6,ha,rises_of hp hasc]
 simp only [Bool.true_and]
 by_cases h5:5≤q.k
 ·rw [if_pos h5,htwo h5,hnone (by omega)];rfl
 ·rw [if_neg h5,decide_eq_true hfew]
  have hb:eqRl q.b noR=true:=decide_eq_true (hone h5)
  rw [hb]
  simp only [Bool.true_and]
  by_cases h4:q.k=4
  ·rw [if_pos h4,hnone (by omega)];rfl
  ·rw [if_neg h4,Bool.or_eq_true,decide_eq_true_iff,decide_eq_true_iff]
   by_cases h3:q.k=3
   ·exact .inl h3
   ·have:=hsome (by omega)
    exact .inr (by omega)
theorem right_iff {q:Qv} {us:List ByteArray}:rightQ q us=true↔GoodQ ⟨q.k,q.a,q.b,us⟩:=⟨good_of,right_of⟩
end
section
open Go.RowKit Go.Shelf

def linesP:List UInt8→List (List UInt8 × Bool)
 | []=>[]
 | c :: r=>if c=10 then ([],true) :: linesP r else match linesP r with
  | []=>[([c],false)]
  | x :: xs=>(c :: x.1,x.2) :: xs
def fullL (p:List UInt8 × Bool):List UInt8:=if p.2=true then p.1++[10] else p.1
theorem lines_cons {c:UInt8} (r:List UInt8) (h:c≠10):linesP (c :: r)=(match linesP r with | []=>[([c],false)] | x :: xs=>(c :: x.1,x.2) :: xs):=if_neg h
theorem lines_nl (r:List UInt8):linesP (10 :: r)=([],true) :: linesP r:=if_pos rfl
theorem lines_nil:∀ {l:List UInt8},linesP l=[]→l=[]
 | [],_=>rfl
 | c :: r,h=>by
  by_cases hc:c=10
  ·rw [hc,lines_nl] at h;exact absurd h (by simp)
  ·rw [lines_cons r hc] at h
   cases hr:linesP r with
   | nil=>rw [hr] at h;exact absurd h (by simp)
   | cons x xs=>rw [hr] at h;exact absurd h (by simp)
theorem lines_full:∀ l:List UInt8,(linesP l).flatMap fullL=l
 | []=>rfl
 | c :: r=>by
  have ih:=lines_full r
  by_cases hc:c=10
  ·rw [hc,lines_nl,List.flatMap_cons,ih];rfl
  ·rw [lines_cons r hc]
   cases hr:linesP r with
   | nil =>
    obtain rfl:=lines_nil hr
    rfl
   | cons x xs =>
    rw [hr,List.flatMap_cons] at ih
    show fullL (c :: x.1,x.2)++xs.flatMap fullL=c :: r
    rw [← ih]
    unfold fullL
    cases x.2 <;> rfl
theorem lines_at:∀ (l:List UInt8) (j:Nat),(∀ k,k < j→l[k]? ≠ some 10)→l[j]? = some 10→linesP l=(l.take j,true) :: linesP (l.drop (j+1))
 | [],j,_,h=>by simp at h
 | c :: r,0,_,h=>by
  obtain rfl:c=10:=by simpa using h
  rw [lines_nl];rfl
 | c :: r,j+1,h0,h=>by
  have hc:c≠10:=fun e=>h0 0 (by omega) (by simp [e])
  have ih:=lines_at r j (fun k hk=>by have:=h0 (k+1) (by omega);simpa using this) (by simpa using h)
  rw [lines_cons r hc,ih]
  simp
theorem lines_end:∀ (l:List UInt8),(∀ k:Nat,l[k]? ≠ some 10)→l≠[]→linesP l=[(l,false)]
 | [],_,h=>absurd rfl h
 | c :: r,h,_=>by
  have hc:c≠10:=fun e=>h 0 (by simp [e])
  rw [lines_cons r hc]
  by_cases hr:r=[]
  ·subst hr;rfl
  ·rw [lines_end r (fun k=>by have:=h (k+1);simpa using this) hr]
theorem lines_len:∀ l:List UInt8,(linesP l).length≤l.length
 | []=>Nat.le_refl _
 | c :: r=>by
  have ih:=lines_len r
  by_cases hc:c=10
  ·rw [hc,lines_nl];simpa using ih
  ·rw [lines_cons r hc]
   cases hr:linesP r with
   | nil=>simp
   | cons x xs=>rw [hr] at ih;simp only [List.length_cons] at ih ⊢;omega
theorem flat_size {α β:Type} (f:α→List β):∀ (l:List α),∀ p∈l,(f p).length≤(l.flatMap f).length
 | [],p,hp=>absurd hp (by simp)
 | x :: xs,p,hp=>by
  rw [List.flatMap_cons,List.length_append]
  rcases List.mem_cons.1 hp with rfl | h
  ·omega
  ·have:=flat_size f xs p h;omega
theorem lines_size (l:List UInt8) (p:List UInt8 × Bool) (hp:p∈linesP l):(fullL p).length≤l.length:=by
 have h:=flat_size fullL (linesP l) p hp
 rwa [lines_full] at h
theorem full_len (p:List UInt8 × Bool):p.1.length≤(fullL p).length:=by unfold fullL;split <;> simp
def lineB (p:List UInt8 × Bool):ByteArray:=⟨p.1.toArray⟩
def pieceB (p:List UInt8 × Bool):ByteArray:=⟨(fullL p).toArray⟩
def linesB (s:ByteArray):List ByteArray:=(linesP (bl s)).map lineB
theorem lines_step {l:List UInt8} (h:Lib.indexByte l 10 = -1) (h0:l≠[]):linesP l=[(l,false)]:=lines_end l (Lib.indexByte_none h) h0
theorem lines_step1 {l:List UInt8} {o:Nat} (h:Lib.indexByte l 10=o):linesP l=(l.take o,true) :: linesP (l.drop (o+1))∧o < l.length∧l.take (o+1)=l.take o++[10]:=by
 obtain ⟨h1,h2⟩:=Lib.indexByte_some h
 obtain ⟨hlt,hv⟩:=List.getElem?_eq_some_iff.1 h1
 exact ⟨lines_at l o h2 h1,hlt,by rw [List.take_succ_eq_append_getElem hlt,hv]⟩
theorem lines_no:∀ (l:List UInt8),∀ p∈linesP l,(10:UInt8) ∉ p.1∧(p.2=false→p.1≠[])
 | [],p,hp=>absurd hp (by simp [linesP])
 | c :: r,p,hp=>by
  by_cases hc:c=10
  ·rw [hc,lines_nl] at hp
   rcases List.mem_cons.1 hp with rfl | h
   ·exact ⟨by simp,fun h=>by cases h⟩
   ·exact lines_no r p h
  ·rw [lines_cons r hc] at hp
   have ih:=lines_no r
   cases hr:linesP r with
   | nil =>
    rw [hr] at hp
    obtain rfl:=List.mem_singleton.1 hp
    exact ⟨by simpa using fun e=>hc e.symm,fun _=>by simp⟩
   | cons x xs =>
    rw [hr] at hp ih
    rcases List.mem_cons.1 hp with rfl | h
    ·have h1:=(ih x (by simp)).1
     exact ⟨fun h=>by rcases List.mem_cons.1 h with e | e;exact hc e.symm;exact h1 e,fun _=>by simp⟩
    ·exact ih p (by simp [h])
theorem lines_cut_of {l:List UInt8} {k:Nat} (h:k < (linesP l).length):((linesP l).getD k ([],false)).2=true∨(((linesP l).getD k ([],false)).1≠[]∧((linesP l).getD k ([],false)).2=false∧∀ c,((linesP l).getD k ([],false)).1.getLast? = some c→c≠10):=by
 obtain ⟨h1,h2⟩:=lines_no l _ (List.getElem_mem h)
 rw [List.getD_eq_getElem?_getD,List.getElem?_eq_getElem h]
 show (linesP l)[k].2=true∨_
 generalize (linesP l)[k]=p at *
 cases hp:p.2 with
 | true=>exact .inl rfl
 | false =>
  refine .inr ⟨h2 hp,hp,fun c hc e=>h1 ?_⟩
  subst e
  exact List.mem_of_getLast? hc
def joinN (l:List ByteArray):List UInt8:=l.flatMap fun x=>bl x++[10]
theorem linesB_size (s:ByteArray):∀ x∈linesB s,x.size≤s.size:=fun x hx=>by
 obtain ⟨p,hp,rfl⟩:=List.mem_map.1 hx
 have h1:=lines_size (bl s) p hp
 have h2:=full_len p
 rw [bl_len] at h1
 rw [← bl_len]
 show p.1.length≤s.size
 omega
theorem linesB_len (s:ByteArray):(linesB s).length≤s.size:=by
 unfold linesB
 rw [List.length_map,← bl_len]
 exact lines_len _
end
section
open Go.RowKit Go.Shelf

set_option maxRecDepth 100000 in
set_option maxHeartbeats 2000000 in
theorem q_IndexFunc (va:Value) (l:List Qv) (w:World) (ha:SlA w 6 va l.length (l.flatMap Qv.cells)) (g:Nat) (cb:Array Value) (p:Qv→Bool)
  (eg:∀ args w,(callFunc g args).run Tryz.prog w=.ok (.enter g args) w)
  (hp:∀ x W,x∈l→Below w.heap.size w W→Calls Tryz.prog g (#[qv x]++cb) W fun e w'=>e=.returned (.bool (p x))∧Below W.heap.size W w') :
  Calls Tryz.prog 172 #[va,.func (.func g) #[] cb] w fun e w'=>(∃ i:Int,e=.returned (.int .i64 i)∧l.any p=decide (0≤i))∧Below w.heap.size w w':=by
 have HP:=Lib.hid hp
 have HA:=Lib.hid ha
 have hmax:=ha.max
 obtain ⟨ao,cap,hva⟩:=ha.form
 subst hva
 clear ha hp
 have HY:=Lib.hid (fun k (hk:k < l.length) (h:p l[k]=true)=>show l.any p=true from List.any_eq_true.2 ⟨l[k],List.getElem_mem hk,h⟩)
 have HN:=Lib.hid (fun (h:∀ j (hj:j < l.length),p l[j]=false)=>show l.any p=false by
  rw [List.any_eq_false]
  intro x hx
  obtain ⟨j,hj,rfl⟩:=List.getElem_of_mem hx
  rw [h j hj];exact Bool.false_ne_true)
 generalize l.any p=res at HY HN ⊢
 go_enter Tryz.func172,Tryz.ntmps172
 go_wp2
 go_loopw [8] (fun i wr => ∃ k:Nat,k≤l.length∧i=.int .i64 k∧Hid (Below w.heap.size w wr)∧Hid (∀ j (hj:j < l.length),j < k→p l[j]=false)) (fun i _=>l.length - (intOf i).toNat)
 case atStart=>exact ⟨0,by omega,rfl,Lib.hid (Below.refl _ _),Lib.hid (fun _ _ h=>absurd h (by omega))⟩
 case round =>
  obtain ⟨k,hk,rfl,HB,HJ⟩:=hrel
  by_cases hlt:k < l.length
  ·obtain ⟨b1,o1,c1,he1,hc1,hm1,hb1,hx1⟩:=HA.out.pos (by omega)
   simp only [Value.slice.injEq,true_and] at he1
   obtain ⟨rfl,rfl⟩:=he1
   obtain ⟨p0,p1,p2,p3,p4,p5⟩:=q_cell (w:=wr) (fun j u hu=>(HB.out.cell (p:=⟨b1,o1+j,none⟩) hb1).trans (hx1 j u hu)) k hlt
   have hbr:b1 < wr.heap.size:=Nat.lt_of_lt_of_le hb1 HB.out.size
   have PC:=Lib.hid (fun W h=>HP.out l[k] W (List.getElem_mem hlt) h)
   have YES:=Lib.hid (HY.out k hlt)
   have HJ2:Hid (p l[k]=false→∀ j (hj:j < l.length),j < k+1→p l[j]=false):=Lib.hid (fun hpk j hj hjk=>by
    by_cases h:j < k
    ·exact HJ.out j hj h
    ·obtain rfl:j=k:=by omega
     exact hpk)
   clear hx1
   generalize p l[k]=px at PC YES HJ2
   generalize l[k]=x at *
   obtain ⟨xk,⟨x1,x2⟩,⟨x3,x4⟩,xw⟩:=x
   go_wp2_with fail
   refine (PC.out _ HB.out).mono ?_
   rintro e w2 ⟨rfl,hb2⟩
   have HB2:=Lib.hid (HB.out.trans (hb2.mono HB.out.size))
   clear hb2
   cases px with
   | true =>
    have R:=Lib.hid (YES.out rfl)
    go_wp2
    go_ret
    exact ⟨⟨(k:Int),rfl,by rw [R.out,decide_eq_true (Int.natCast_nonneg k)]⟩,HB2.out⟩
   | false =>
    have HJ3:=Lib.hid (HJ2.out rfl)
    go_wp2
    exact ⟨⟨k+1,by omega,by go_num,HB2,HJ3⟩,by simp [intOf];omega⟩
  ·have R:=Lib.hid (HN.out (fun j hj=>HJ.out j hj (by omega)))
   go_wp2
   go_ret
   exact ⟨⟨-1,rfl,by rw [R.out];rfl⟩,HB.out⟩
set_option maxHeartbeats 1000000 in
theorem q_ContainsFunc (va:Value) (l:List Qv) (w:World) (ha:SlA w 6 va l.length (l.flatMap Qv.cells)) (g:Nat) (cb:Array Value) (p:Qv→Bool)
  (eg:∀ args w,(callFunc g args).run Tryz.prog w=.ok (.enter g args) w)
  (hp:∀ x W,x∈l→Below w.heap.size w W→Calls Tryz.prog g (#[qv x]++cb) W fun e w'=>e=.returned (.bool (p x))∧Below W.heap.size W w') :
  Calls Tryz.prog 118 #[va,.func (.func g) #[] cb] w fun e w'=>e=.returned (.bool (l.any p))∧Below w.heap.size w w':=by
 have I:=Lib.hid (q_IndexFunc va l w ha g cb p eg hp)
 generalize l.any p=res at I ⊢
 clear ha hp eg
 go_enter Tryz.func118,Tryz.ntmps118
 go_wp2_with fail
 refine I.out.mono ?_
 rintro e w1 ⟨⟨i,rfl,hi⟩,hb⟩
 have HI:=Lib.hid hi
 have HB:=Lib.hid hb
 clear hi hb
 go_wp2
 go_ret
 exact ⟨ret_b HI.out.symm,HB.out⟩
end
end Go.Proofs.YtomhekohcadijaaGreatDoor
