/- Parts: RefFresh RefNamesO RlSortO Ref12 LowLives Law11T Law12S SimDecide SimDecideW SimDecideX -/
import Derived.Test.YtilgbodgmkmjjaaGreatDoorPart16
import Derived.Laws.IdiomStrings
import Derived.Test.YtilgbodgmkmjjaaGreatDoorPart8
import Derived.Test.YtilgbodgmkmjjaaGreatDoorPart17
import Derived.Test.YtilgbodgmkmjjaaGreatDoorPart6
import Derived.Test.YtilgbodgmkmjjaaGreatDoorPart9
namespace Go.Proofs.YtilgbodgmkmjjaaGreatDoor
section
open Go.RowKit Go.Shelf

def DecRel (N:Nat) (w:World) (vn vs i:Value) (wr:World):Prop :=
 ∃ (n k:Nat) (s:List UInt8),vn=.int .i64 n∧i=.int .i64 k∧vs=.string (toBA s)∧s.length=k∧decL N=decL n++s∧n * 10 ^ k≤100000∧(1≤n∨k=0)∧Below w.heap.size w wr
theorem dec_few {n k:Nat} (h:n * 10 ^ k≤100000) (h1:1≤n∨k=0):k≤5:=by
 rcases h1 with h1 | h1
 ·by_cases hk:k≤5
  ·exact hk
  ·exfalso
   have h2:10 ^ 6≤10 ^ k:=Nat.pow_le_pow_right (by omega) (by omega)
   have h3:1 * 10 ^ k≤n * 10 ^ k:=Nat.mul_le_mul_right _ h1
   omega
 ·omega
theorem dec_next {n k:Nat} (h:n * 10 ^ k≤100000):n / 10 * 10 ^ (k+1)≤100000:=by
 have e:n / 10 * 10 ^ (k+1)=n / 10 * 10 * 10 ^ k:=by rw [Nat.pow_succ,Nat.mul_comm (10 ^ k) 10,Nat.mul_assoc]
 have h2:n / 10 * 10 * 10 ^ k≤n * 10 ^ k:=Nat.mul_le_mul_right _ (Nat.div_mul_le_self n 10)
 omega
theorem toBA_size (s:List UInt8):(toBA s).size=s.length:=by unfold toBA;simp [ByteArray.size]
set_option maxRecDepth 100000 in
set_option maxHeartbeats 4000000 in
theorem ref1_Dec (N:Nat) (hN:N≤100000) (w:World):Calls Tryz.prog 209 #[.int .i64 N] w fun e w'=>e=.returned (.string (toBA (decL N)))∧Below w.heap.size w w':=by
 go_enter Tryz.func209,Tryz.ntmps209
 go_wp2_with fail
 go_loopw [0,3,4] (fun vn vs i wr=>DecRel N w vn vs i wr) (fun _ _ i _=>20 - (intOf i).toNat)
 case atStart=>exact ⟨N,0,[],rfl,rfl,rfl,rfl,by simp,by omega,.inr rfl,Below.refl _ _⟩
 case round =>
  obtain ⟨n,k,s,rfl,rfl,rfl,hsl,hd,hp,h1,hb⟩:=hrel
  have hk:=dec_few hp h1
  have hn:n≤100000:=Nat.le_trans (Nat.le_mul_of_pos_right n (Nat.pow_pos (by omega))) hp
  have HB:=Lib.hid hb
  have hct:(UInt8.ofNat (48+n % 10)).toNat=48+n % 10:=by rw [UInt8.toNat_ofNat'];omega
  have HD:=Lib.hid (show n < 10→decL N=[UInt8.ofNat (48+n % 10)]++s from fun h=>by rw [hd,decL_small h,Nat.mod_eq_of_lt h])
  have HD2:=Lib.hid (show ¬ n < 10→decL N=decL (n / 10)++([UInt8.ofNat (48+n % 10)]++s) from fun h=>by rw [hd,decL_big h,decL_small (n:=n % 10) (by omega),List.append_assoc])
  have HP:=Lib.hid (dec_next hp)
  generalize UInt8.ofNat (48+n % 10)=c at *
  have HE:=Lib.hid (show ByteArray.mk #[c]++toBA s=toBA ([c]++s) by rw [toBA_app];rfl)
  have z1:(toBA s).size≤4294967:=by rw [toBA_size];omega
  have z2:(ByteArray.mk #[c]).size≤4294967:=by show 1≤4294967;omega
  have hci:(48:Int)+(n:Int) % 10=(c.toNat:Int):=by omega
  have kc:=run_convert_bytes_back (P:=Tryz.prog) (wr.alloc (.cells #[.int .u8 (48+(n:Int) % 10)] 5)) 195 9 5 ⟨wr.heap.size,0,none⟩ 1 [c] Tryz.underlying195 Tryz.underlying5 Tryz.underlying9 (fun j hj=>by
   have h0:j=0:=by simpa using hj
   subst h0
   rw [hci]
   exact cells_new wr [.int .u8 (c.toNat:Int)] 5 wr.heap.size rfl 0 _ rfl)
  simp only [List.length_singleton] at kc
  have HS:=Lib.hid hsl
  clear hd hp hb h1 hct hci hsl
  by_cases hn10:n < 10
  ·have hq:((n:Int) / 10 == 0)=true:=by rw [beq_iff_eq];omega
   have HR:=Lib.hid (HD.out hn10)
   clear HD2 HD
   go_wp2_with fail
   go_ret
   exact ⟨by rw [HR.out,← HE.out];rfl,HB.out.alloc HB.out.size _⟩
  ·have hq:((n:Int) / 10 == 0)=false:=by rw [beq_eq_false_iff_ne];omega
   have HR:=Lib.hid (HD2.out hn10)
   clear HD2 HD
   go_wp2_with fail
   exact ⟨⟨n / 10,k+1,[c]++s,by rfl,by go_num,by rw [← HE.out],by rw [List.length_append,HS.out,List.length_singleton,Nat.add_comm],HR.out,HP.out,.inl (by omega),HB.out.alloc HB.out.size _⟩,by simp [intOf];omega⟩
def FreshRel2 (l:List ByteArray) (w:World) (vo i:Value) (wr:World):Prop :=
 (∃ k:Nat,1≤k∧k≤l.length+1001∧i=.int .i64 k∧vo=.slice none 0 0∧(∀ j,1≤j→j < k→xdec j∈l)∧Below w.heap.size w wr) ∨
 ∃ (k:Nat) (b:Nat) (c:Nat),k≤l.length+1001∧i=.int .i64 k∧vo=.slice (some ⟨b,0,none⟩) 1 c∧Sl wr 1 (.slice (some ⟨b,0,none⟩) 1 c) 1 [.string (freshB l)]∧Below w.heap.size w wr
set_option maxRecDepth 100000 in
set_option maxHeartbeats 4000000 in
theorem ref1_Fresh1 (va:Value) (l:List ByteArray) (w:World) (ha:SlA w 1 va l.length (strs l)) (hn:l.length≤1000) :
  Calls Tryz.prog 166 #[va,.int .i64 1] w fun e w' => ∃ g c,e=.returned (.slice (some ⟨g,0,none⟩) 1 c)∧Sl w' 1 (.slice (some ⟨g,0,none⟩) 1 c) 1 [.string (freshB l)]∧Below w.heap.size w w':=by
 have HH:=Lib.hid (fun s W (hb:Below w.heap.size w W)=>ref1_HasB va l s W (ha.below hb))
 obtain ⟨ao,ac,rfl⟩:=ha.form
 clear ha
 go_enter Tryz.func166,Tryz.ntmps166
 go_wp2_with fail
 go_loopw [5,6] (fun vo i wr=>FreshRel2 l w vo i wr) (fun _ i _=>l.length+1002 - (intOf i).toNat)
 case atStart=>exact .inl ⟨1,Nat.le_refl _,by omega,rfl,rfl,fun j a c=>by omega,Below.refl _ _⟩
 case round =>
  rcases hrel with ⟨k,hk1,hk2,rfl,rfl,hall,hb⟩ | ⟨k,g,c,hk2,rfl,rfl,hs,hb⟩
  ·have hkf:=xdec_few hall
   have HB:=Lib.hid hb
   have DC:=Lib.hid (ref1_Dec k (by omega) wr)
   have z1:(toBA (decL k)).size≤4294967:=dec_size (by omega)
   have E:=Lib.hid (show ByteArray.mk #[88]++toBA (decL k)=xdec k by unfold xdec;rw [show 88 :: decL k=[88]++decL k from rfl,toBA_app];rfl)
   have FS:=Lib.hid (fun (hf:xdec k ∉ l)=>fresh_eq ⟨k,hk1,hall,hf,rfl⟩)
   have HA2:=Lib.hid (fun (hf:xdec k∈l) j (a:1≤j) (c:j < k+1)=>show xdec j∈l by by_cases e:j < k;exact hall j a e;rw [show j=k by omega];exact hf)
   have HM:=Lib.hid (hasB_mem l (xdec k))
   have HX:=Lib.hid (HH.out (xdec k))
   have hle:decide ((k:Int)≤1000+(l.length:Int))=true:=by rw [decide_eq_true_iff];omega
   generalize xdec k=x at *
   generalize toBA (decL k)=y1 at *
   generalize hasB l x=bx at *
   clear hall HH hb
   go_wp2_with fail
   refine DC.out.mono ?_
   rintro e w1 ⟨rfl,hb1⟩
   have HB1:=Lib.hid (HB.out.trans (hb1.mono HB.out.size))
   clear hb1 DC
   cases bx with
   | true =>
    have HA3:=Lib.hid (HA2.out (HM.out.1 (by first | rfl | trivial)))
    clear HA2 FS HM
    go_wp2_with fail
    simp only [E.out]
    refine (HX.out _ HB1.out).mono ?_
    rintro e w2 ⟨rfl,rfl⟩
    go_wp2_with fail
    exact ⟨.inl ⟨k+1,by omega,by omega,by go_num,rfl,HA3.out,HB1.out⟩,by simp [intOf];omega⟩
   | false =>
    have FX:=Lib.hid (FS.out (fun h=>by have:=HM.out.2 h;cases this))
    clear HA2 FS HM
    go_wp2_with fail
    simp only [E.out]
    refine (HX.out _ HB1.out).mono ?_
    rintro e w2 ⟨rfl,rfl⟩
    go_wp2_with (at_builtin;refine halt_ ?_)
    unfold Halt_
    refine app_own Tryz.underlying38 str_info rfl (by decide) (by decide) rfl _ _ rfl w2.heap.size rfl (World.ownsRow_nil _ _ _ _) [.string x] rfl (heap_new1 _ _) rfl (str1 _) ?_ ?_ ?_
    ·omega
    ·simp
    intro a' cap' w6 hown' hgrow
    have HB6:=Lib.hid (HB1.out.trans ((show Below w2.heap.size w2 w6 from ((Below.refl _ _).alloc (Nat.le_refl _) (.cells #[.string x] 9)).trans ((below_of_none (show (w2.alloc (.cells #[.string x] 9)).grownBy w6 none from hgrow)).mono (by simp))).mono HB1.out.size))
    have HS6:=Lib.hid (Sl.of_own hown')
    obtain ⟨_,hf⟩ | ⟨g,cap,cur,hv,_⟩:=hown'.2
    ·omega
    simp only [Value.slice.injEq] at hv
    obtain ⟨rfl,_,rfl⟩:=hv
    clear hown' hgrow
    go_wp2_with fail
    exact ⟨.inr ⟨k+1,g,cap',by omega,by go_num,rfl,by rw [FX.out];exact HS6.out,HB6.out⟩,by simp [intOf];omega⟩
  ·have HS:=Lib.hid hs
   have HB:=Lib.hid hb
   clear hs hb
   by_cases hkl:k≤l.length+1000
   ·have DC:=Lib.hid (ref1_Dec k (by omega) wr)
    have z1:(toBA (decL k)).size≤4294967:=dec_size (by omega)
    have hle:decide ((k:Int)≤1000+(l.length:Int))=true:=by rw [decide_eq_true_iff];omega
    generalize toBA (decL k)=y1 at *
    clear HH
    go_wp2_with fail
    refine DC.out.mono ?_
    rintro e w1 ⟨rfl,hb1⟩
    have HB1:=Lib.hid (HB.out.trans (hb1.mono HB.out.size))
    have HS1:=Lib.hid (HS.out.below hb1)
    clear hb1 DC HS HB
    go_wp2_with fail
    exact ⟨.inr ⟨k+1,g,c,by omega,by go_num,rfl,HS1.out,HB1.out⟩,by simp [intOf];omega⟩
   ·have hle:decide ((k:Int)≤1000+(l.length:Int))=false:=by rw [decide_eq_false_iff_not];omega
    go_wp2_with fail
    go_ret
    exact ⟨g,c,rfl,HS.out,HB.out⟩
end
section
open Go.RowKit Go.Shelf

set_option maxRecDepth 100000 in
set_option maxHeartbeats 4000000 in
theorem ref1_PutO (va:Value) (l:List ByteArray) (s:ByteArray) (w:World) (ha:SlA w 1 va l.length (strs l)) (hn:l.length≤100000) :
  Calls Tryz.prog 135 #[va,.string s] w fun e w' => ∃ v,e=.returned v∧((v=va∧insSB l s=l)∨w'.ownsRow w.heap.size 9 1 v (insSB l s).length (strs (insSB l s)))∧Below w.heap.size w w':=by
 have HA:=Lib.hid ha
 have HH:=Lib.hid (ref1_HasB va l s w ha)
 have IY:=Lib.hid (fun h=>insS_hasB (l:=l) (x:=s) h)
 have IN:=Lib.hid (fun h=>insS_notB (l:=l) (x:=s) h)
 have NE:=Lib.hid (fun (h:hasB l s=false) k (hk:k < l.length)=>show ¬ l[k]=s from fun e=>absurd (hasB_yes hk e) (by rw [h];exact Bool.false_ne_true))
 generalize hasB l s=b at HH IY IN NE
 have hmax:=ha.max
 obtain ⟨ao,cap,hva⟩:=ha.form
 subst hva
 clear ha
 go_enter Tryz.func135,Tryz.ntmps135
 go_wp2_with fail
 refine HH.out.mono ?_
 rintro e w1 ⟨rfl,rfl⟩
 cases b with
 | true =>
  go_wp2
  go_ret
  exact ⟨_,rfl,.inl ⟨rfl,IY.out (by first | rfl | trivial)⟩,Below.refl _ _⟩
 | false =>
  obtain ⟨wA,hwA⟩:∃ wA,wA=w1:=⟨_,rfl⟩
  subst hwA
  have INS:=Lib.hid (IN.out rfl)
  have NEQ:=Lib.hid (NE.out rfl)
  clear IY IN NE
  go_wp2_with fail
  go_loopw [5,6,15] (fun vo dv i wr => ∃ (k:Nat) (d:Bool) (ss:List ByteArray),k≤l.length∧i=.int .i64 k∧dv=.bool d∧Hid (PutI l s k d ss)∧Hid (Below wA.heap.size wA wr)∧Hid (wr.ownsRow wA.heap.size 9 1 vo ss.length (strs ss))) (fun _ _ i _=>l.length - (intOf i).toNat)
  case atStart=>exact ⟨0,false,[],by omega,rfl,rfl,Lib.hid (PutI.start l s),Lib.hid (Below.refl _ _),Lib.hid (World.ownsRow_nil _ _ _ _)⟩
  case round =>
   obtain ⟨k,d,ss,hk,rfl,rfl,HC,HB,HO⟩:=hrel
   obtain ⟨oo,oc,rfl⟩:=own_form HO.out
   have hss:ss.length≤100002:=by have:=HC.out.len;omega
   by_cases hlt:k < l.length
   ·obtain ⟨b1,o1,c1,he1,hc1,hm1,hb1,hx1⟩:=HA.out.pos (by omega)
    simp only [Value.slice.injEq,true_and] at he1
    obtain ⟨rfl,rfl⟩:=he1
    have p0:=(HB.out.cell (p:=⟨b1,o1+k,none⟩) hb1).trans (hx1 k _ (strs_get hlt))
    have hbr:b1 < wr.heap.size:=Nat.lt_of_lt_of_le hb1 HB.out.size
    have PY:=Lib.hid (fun (h:PutI l s k true ss)=>h.yes hlt)
    have PN:=Lib.hid (fun (h:PutI l s k false ss) e=>h.no hlt (NEQ.out k hlt) e)
    have PP:=Lib.hid (fun (h:PutI l s k false ss) e=>h.put hlt e)
    clear hx1
    generalize l[k]=x at *
    cases d with
    | true =>
     have HC':=HC.out
     have hown:=HO.out
     go_wp2_with (at_builtin;refine halt_ ?_)
     unfold Halt_
     refine app_own Tryz.underlying38 str_info rfl (by decide) (by decide) rfl _ _ rfl wA.heap.size rfl (hown.alloc _) [.string x] rfl (heap_new1 _ _) rfl (str1 _) ?_ ?_ ?_
     ·omega
     ·have:=HB.out.size;simp;omega
     intro a' cap' w3 hown' hgrow
     obtain ⟨q1,q2⟩:=own_push (x:=x) HB.out hown hown' hgrow
     have HO1:=Lib.hid q1
     have HB1:=Lib.hid q2
     clear hown hown' hgrow q1 q2
     go_wp2_with fail
     exact ⟨⟨k+1,true,ss++[x],by omega,by go_num,rfl,Lib.hid (PY.out HC'),HB1,HO1⟩,by simp [intOf];omega⟩
    | false =>
     have HC':=HC.out
     cases hbl:Op.bytesLess s.toList x.toList with
     | false =>
      have hown:=HO.out
      go_wp2_with (at_builtin;refine halt_ ?_)
      unfold Halt_
      refine app_own Tryz.underlying38 str_info rfl (by decide) (by decide) rfl _ _ rfl wA.heap.size rfl (hown.alloc _) [.string x] rfl (heap_new1 _ _) rfl (str1 _) ?_ ?_ ?_
      ·omega
      ·have:=HB.out.size;simp;omega
      intro a' cap' w3 hown' hgrow
      obtain ⟨q1,q2⟩:=own_push (x:=x) HB.out hown hown' hgrow
      have HO1:=Lib.hid q1
      have HB1:=Lib.hid q2
      clear hown hown' hgrow q1 q2
      go_wp2_with fail
      exact ⟨⟨k+1,false,ss++[x],by omega,by go_num,rfl,Lib.hid (PN.out HC' hbl),HB1,HO1⟩,by simp [intOf];omega⟩
     | true =>
      have hown:=HO.out
      go_wp2_with (at_builtin;refine halt_ ?_)
      unfold Halt_
      refine app_own Tryz.underlying38 str_info rfl (by decide) (by decide) rfl _ _ rfl wA.heap.size rfl (hown.alloc _) [.string s] rfl (heap_new1 _ _) rfl (str1 _) ?_ ?_ ?_
      ·omega
      ·have:=HB.out.size;simp;omega
      intro a' cap' w3 hown' hgrow
      obtain ⟨q1,q2⟩:=own_push (x:=s) HB.out hown hown' hgrow
      have HO1:=Lib.hid q1
      have HB1:=Lib.hid q2
      clear hown hown' hgrow q1 q2
      have hown:=HO1.out
      go_wp2_with (at_builtin;refine halt_ ?_)
      unfold Halt_
      refine app_own Tryz.underlying38 str_info rfl (by decide) (by decide) rfl _ _ rfl wA.heap.size rfl (hown.alloc _) [.string x] rfl (heap_new1 _ _) rfl (str1 _) ?_ ?_ ?_
      ·(simp only [List.length_append,List.length_cons,List.length_nil];omega)
      ·have:=HB1.out.size;simp;omega
      intro a' cap' w3 hown' hgrow
      obtain ⟨q1,q2⟩:=own_push (x:=x) HB1.out hown hown' hgrow
      have HO2:=Lib.hid q1
      have HB2:=Lib.hid q2
      clear hown hown' hgrow q1 q2
      go_wp2_with fail
      refine ⟨⟨k+1,true,ss++[s]++[x],by omega,by go_num,rfl,Lib.hid (PP.out HC' hbl),HB2,Lib.hid (by have h:=HO2.out;rw [show (ss++[s]).length+1=ss.length+1+1 by simp] at h;exact h)⟩,by simp [intOf];omega⟩
   ·cases d with
    | true =>
     have HC':=HC.out
     have HSL:=Lib.hid (Sl.of_own HO.out).a
     have HSO:=Lib.hid (HO.out)
     go_wp2
     go_ret
     exact ⟨_,rfl,.inr (by rw [INS.out,← HC'.endT (by omega)];exact HSO.out),HB.out⟩
    | false =>
     have HC':=HC.out
     have hown:=HO.out
     go_wp2_with (at_builtin;refine halt_ ?_)
     unfold Halt_
     refine app_own Tryz.underlying38 str_info rfl (by decide) (by decide) rfl _ _ rfl wA.heap.size rfl (hown.alloc _) [.string s] rfl (heap_new1 _ _) rfl (str1 _) ?_ ?_ ?_
     ·omega
     ·have:=HB.out.size;simp;omega
     intro a' cap' w3 hown' hgrow
     obtain ⟨q1,q2⟩:=own_push (x:=s) HB.out hown hown' hgrow
     have HO1:=Lib.hid q1
     have HB1:=Lib.hid q2
     clear hown hown' hgrow q1 q2
     have HSL:=Lib.hid (Sl.of_own HO1.out).a
     have HSO:=Lib.hid (HO1.out)
     go_wp2
     go_ret
     exact ⟨_,rfl,.inr (by rw [INS.out,← HC'.endF (by omega)];exact HSO.out),HB1.out⟩

def NewO (B:Nat) (w:World) (v:Value) (xs:List ByteArray) (n:Nat):Prop:=(w.ownsRow B 9 1 v (newB xs).length (strs (newB xs))∧xs.length≤n)∧B≤w.heap.size
theorem NewO.below {B:Nat} {w w':World} {v:Value} {xs:List ByteArray} {n:Nat} (h:NewO B w v xs n) (hb:Below w.heap.size w w'):NewO B w' v xs n:=⟨⟨own_below h.1.1 hb,h.1.2⟩,Nat.le_trans h.2 hb.size⟩
theorem NewO.mono {B:Nat} {w:World} {v:Value} {xs:List ByteArray} {n m:Nat} (h:NewO B w v xs n) (hm:n≤m):NewO B w v xs m:=⟨⟨h.1.1,Nat.le_trans h.1.2 hm⟩,h.2⟩
theorem NewO.nil (B:Nat) (w:World) (hB:B≤w.heap.size):NewO B w (.slice none 0 0) [] 0:=⟨⟨World.ownsRow_nil _ _ _ _,Nat.le_refl _⟩,hB⟩
theorem NewO.eq {B:Nat} {w:World} {v:Value} {xs ys:List ByteArray} {n:Nat} (h:NewO B w v xs n) (e:ys=xs):NewO B w v ys n:=by rw [e];exact h
theorem put_newO (B:Nat) (v:Value) (n:Nat) (xs:List ByteArray) (s:ByteArray) (w:World) (h:NewO B w v xs n) (hn:n≤100000) :
  Calls Tryz.prog 135 #[v,.string s] w fun e w' => ∃ v',e=.returned v'∧NewO B w' v' (xs++[s]) (n+1)∧Below w.heap.size w w':=by
 refine (ref1_PutO v (newB xs) s w (Sl.of_own h.1.1).a (Nat.le_trans (new_len xs) (Nat.le_trans h.1.2 hn))).mono ?_
 rintro e w' ⟨v',he,hr,hb⟩
 refine ⟨v',he,⟨⟨?_,by rw [List.length_append];exact Nat.succ_le_succ h.1.2⟩,Nat.le_trans h.2 hb.size⟩,hb⟩
 rw [new_snoc]
 rcases hr with ⟨rfl,e1⟩ | hr
 ·rw [e1];exact own_below h.1.1 hb
 ·exact own_mono hr h.2
set_option maxRecDepth 100000 in
set_option maxHeartbeats 8000000 in
theorem ref5_PrinsO (v0 v1 v2 v3:Value) (l:List St) (g h:List Rl) (qs:List Qv) (w:World) (hp:PolAt w v0 v1 v2 v3 l g h qs) (hl:l.length≤100) (hg:g.length≤100) (hh:h.length≤100) (hq:qs.length≤100) (F:Qv→List ByteArray) (hF:WhoF w qs F) :
  Calls Tryz.prog 55 #[pv v0 v1 v2 v3] w fun e w' => ∃ v,e=.returned v∧NewO w.heap.size w' v (allPrins l g h qs F) 10000∧Below w.heap.size w w':=by
 have HP:=Lib.hid hp
 have HR:=Lib.hid (fun W (hb:Below w.heap.size w W)=>ref5_RolesL v0 v1 v2 v3 l g h qs W (hp.below hb) hl hg hh hq)
 have HQ4:=Lib.hid hF
 obtain ⟨a0,c0,rfl⟩:=hp.rs.form
 obtain ⟨a1,c1,rfl⟩:=hp.rg.form
 obtain ⟨a2,c2,rfl⟩:=hp.rh.form
 obtain ⟨a3,c3,rfl⟩:=hp.rq.form
 have HT:=Lib.hid (show OneAt w #[.slice a0 l.length c0,.slice a1 g.length c1,.slice a2 h.length c2,.slice a3 qs.length c3] (w.alloc (.cells #[.slice a0 l.length c0,.slice a1 g.length c1,.slice a2 h.length c2,.slice a3 qs.length c3] 26)) from ⟨Blk.new w _ _,(Below.refl _ _).alloc (Nat.le_refl _) _⟩)
 clear hp hF
 go_enter Tryz.func55,Tryz.ntmps55
 go_wp2_with fail
 refine (HR.out _ HT.out.low).mono ?_
 rintro e w1 ⟨vr,rfl,hr1,hr2,hr3,hb1⟩
 have HT:=Lib.hid (HT.out.later hb1)
 have HRES:=Lib.hid (show allPrins l g h qs F=((allRoles l g h qs).map Rl.o++l.flatMap whoS)++qs.flatMap F from rfl)
 generalize allRoles l g h qs=rs at *
 have HRS:=Lib.hid hr1
 have HRL:=Lib.hid hr3
 obtain ⟨ro,rc,rfl⟩:=hr1.form
 clear hb1 hr1 hr3
 go_wp2_with fail
 go_loopw [3,15] (fun vo i wr => ∃ (k:Nat) (vx:Value),k≤rs.length∧vx=vo∧i=.int .i64 k∧Hid (NewO w.heap.size wr vx ((rs.take k).map Rl.o) k)∧Hid (OneAt w #[.slice a0 l.length c0,.slice a1 g.length c1,.slice a2 h.length c2,.slice a3 qs.length c3] wr)∧Hid (Below w1.heap.size w1 wr)) (fun _ i _=>rs.length - (intOf i).toNat)
 case atStart=>exact ⟨0,_,by omega,rfl,rfl,Lib.hid (NewO.nil _ _ HT.out.low.size),HT,Lib.hid (Below.refl _ _)⟩
 case round =>
  clear HT
  obtain ⟨k,vx,hk,rfl,rfl,HO,HT,HB⟩:=hrel
  by_cases hlt:k < rs.length
  ·obtain ⟨b1,o1,e1,he1,hc1,hm1',hb1,hx1⟩:=HRS.out.pos (by omega)
   simp only [Value.slice.injEq,true_and] at he1
   obtain ⟨rfl,rfl⟩:=he1
   obtain ⟨p0,p1⟩:=rl_cell (w:=wr) (fun j u hu=>(HB.out.cell (p:=⟨b1,o1+j,none⟩) hb1).trans (hx1 j u hu)) k hlt
   have hbr:b1 < wr.heap.size:=Nat.lt_of_lt_of_le hb1 HB.out.size
   have HF:=Lib.hid (take_snoc hlt)
   clear hx1
   generalize rs[k]=x at *
   obtain ⟨x1,x2⟩:=x
   have hba:Below wr.heap.size wr (wr.alloc (.cells #[.string x1,.string x2] 28)):=(Below.refl _ _).alloc (Nat.le_refl _) _
   have PC:=Lib.hid (put_newO w.heap.size vx k _ x1 _ (HO.out.below hba) (by omega))
   have HT2:=Lib.hid (HT.out.later hba)
   have HB2:=Lib.hid (HB.out.trans (hba.mono HB.out.size))
   clear hba
   go_wp2_with fail
   refine PC.out.mono ?_
   rintro e w3 ⟨vz,rfl,hr,hb3⟩
   have HR3:=Lib.hid hr
   have HT3:=Lib.hid (HT2.out.later hb3)
   have HB3:=Lib.hid (HB2.out.trans (hb3.mono HB2.out.size))
   clear hr hb3
   go_wp2
   exact ⟨⟨k+1,_,by omega,rfl,by go_num,Lib.hid (HR3.out.eq (by rw [HF.out,List.map_append];rfl)),HT3,HB3⟩,by simp [intOf];omega⟩
  ·obtain ⟨ca,fa,za⟩:=HT.out.a
   have HO:=Lib.hid ((HO.out.mono (show k≤1000 by omega)).eq (ys:=rs.map Rl.o) (by rw [List.take_of_length_le (show rs.length≤k by omega)]))
   clear HB HRS HRL hk
   go_wp2_with fail
   clear ca fa za
   go_loopw [3,27] (fun vo i wr => ∃ (k:Nat) (vx:Value),k≤l.length∧vx=vo∧i=.int .i64 k∧Hid (NewO w.heap.size wr vx (rs.map Rl.o++(l.take k).flatMap whoS) (1000+k))∧Hid (OneAt w #[.slice a0 l.length c0,.slice a1 g.length c1,.slice a2 h.length c2,.slice a3 qs.length c3] wr)) (fun _ i _=>l.length - (intOf i).toNat)
   case atStart=>exact ⟨0,_,by omega,rfl,rfl,Lib.hid (HO.out.eq (by simp)),HT⟩
   case round =>
    clear HT HO
    obtain ⟨k,vx,hk,rfl,rfl,HO,HT⟩:=hrel
    by_cases hlt:k < l.length
    ·obtain ⟨b1,o1,e1,he1,hc1,hm1',hb1,hx1⟩:=HP.out.rs.pos (by omega)
     simp only [Value.slice.injEq,true_and] at he1
     obtain ⟨rfl,rfl⟩:=he1
     obtain ⟨p0,p1,p2,p3,p4,p5,p6,p7,p8⟩:=st_cell (w:=wr) (fun j u hu=>(HT.out.low.cell (p:=⟨b1,o1+j,none⟩) hb1).trans (hx1 j u hu)) k hlt
     have hbr:b1 < wr.heap.size:=Nat.lt_of_lt_of_le hb1 HT.out.low.size
     have HF:=Lib.hid (flat_snocF whoS hlt)
     clear hx1
     generalize l[k]=x at *
     obtain ⟨xk,⟨x1,x2⟩,xw,⟨x3,x4⟩,⟨x5,x6⟩,xv⟩:=x
     have hba:Below wr.heap.size wr (wr.alloc (.cells #[.int .i64 xk,.string x1,.string x2,.string xw,.string x3,.string x4,.string x5,.string x6,.string xv] 74)):=(Below.refl _ _).alloc (Nat.le_refl _) _
     have PC:=Lib.hid (put_newO w.heap.size vx (1000+k) _ xw _ (HO.out.below hba) (by omega))
     have HT2:=Lib.hid (HT.out.later hba)
     have HO2:=Lib.hid (HO.out.below hba)
     clear hba
     by_cases hkk:xk=1
     ·have d1:(xk == 1)=true:=by simp [hkk]
      have HK:=Lib.hid (show whoS ⟨xk,⟨x1,x2⟩,xw,⟨x3,x4⟩,⟨x5,x6⟩,xv⟩=[xw] from if_pos hkk)
      clear hkk
      go_wp2_with fail
      refine PC.out.mono ?_
      rintro e w3 ⟨vz,rfl,hr,hb3⟩
      have HR3:=Lib.hid hr
      have HT3:=Lib.hid (HT2.out.later hb3)
      clear hr hb3
      go_wp2
      exact ⟨⟨k+1,_,by omega,rfl,by go_num,Lib.hid (HR3.out.eq (by rw [HF.out,HK.out,List.append_assoc])),HT3⟩,by simp [intOf];omega⟩
     ·have d1:(xk == 1)=false:=by simp [hkk]
      have HK:=Lib.hid (show whoS ⟨xk,⟨x1,x2⟩,xw,⟨x3,x4⟩,⟨x5,x6⟩,xv⟩=[] from if_neg hkk)
      clear hkk
      go_wp2
      exact ⟨⟨k+1,_,by omega,rfl,by go_num,Lib.hid ((HO2.out.mono (by omega)).eq (by rw [HF.out,HK.out,List.append_nil])),HT2⟩,by simp [intOf];omega⟩
    ·obtain ⟨ca,fa,za⟩:=HT.out.a
     have HO:=Lib.hid ((HO.out.mono (show 1000+k≤1100 by omega)).eq (ys:=rs.map Rl.o++l.flatMap whoS) (by rw [List.take_of_length_le (show l.length≤k by omega)]))
     clear hk
     go_wp2_with fail
     clear ca fa za
     go_loopw [3,42] (fun vo i wr => ∃ (k:Nat) (vx:Value),k≤qs.length∧vx=vo∧i=.int .i64 k∧Hid (NewO w.heap.size wr vx (rs.map Rl.o++l.flatMap whoS++(qs.take k).flatMap F) (1100+40 * k))∧Hid (OneAt w #[.slice a0 l.length c0,.slice a1 g.length c1,.slice a2 h.length c2,.slice a3 qs.length c3] wr)) (fun _ i _=>qs.length - (intOf i).toNat)
     case atStart=>exact ⟨0,_,by omega,rfl,rfl,Lib.hid (HO.out.eq (by simp)),HT⟩
     case round =>
      clear HT HO
      obtain ⟨k,vx,hk,rfl,rfl,HO,HT⟩:=hrel
      by_cases hlt:k < qs.length
      ·obtain ⟨b1,o1,e1,he1,hc1,hm1',hb1,hx1⟩:=HP.out.rq.pos (by omega)
       simp only [Value.slice.injEq,true_and] at he1
       obtain ⟨rfl,rfl⟩:=he1
       obtain ⟨p0,p1,p2,p3,p4,p5⟩:=q_cell (w:=wr) (fun j u hu=>(HT.out.low.cell (p:=⟨b1,o1+j,none⟩) hb1).trans (hx1 j u hu)) k hlt
       have hbr:b1 < wr.heap.size:=Nat.lt_of_lt_of_le hb1 HT.out.low.size
       obtain ⟨hu1,hu2⟩:=HQ4.out _ (List.getElem_mem hlt)
       have HF:=Lib.hid (flat_snocF F hlt)
       generalize F qs[k]=us at hu1 hu2 HF
       have HU:=Lib.hid hu1
       obtain ⟨wo,wc,hw5⟩:=hu1.form
       clear hx1 hu1
       generalize qs[k]=x at *
       obtain ⟨xk,⟨x1,x2⟩,⟨x3,x4⟩,xw⟩:=x
       dsimp only at hw5 HU
       subst hw5
       obtain ⟨nw,hnw⟩:∃ nw,nw=us.length:=⟨_,rfl⟩
       have HNW:=Lib.hid hnw
       rw [← hnw] at p5 HU hu2
       clear hnw
       have hba:Below wr.heap.size wr (wr.alloc (.cells #[.int .i64 xk,.string x1,.string x2,.string x3,.string x4,.slice wo nw wc] 50)):=(Below.refl _ _).alloc (Nat.le_refl _) _
       have HT2:=Lib.hid (HT.out.later hba)
       have HO2:=Lib.hid (HO.out.below hba)
       clear hba
       go_wp2_with fail
       go_loopw [3,49] (fun vo i wr => ∃ (j:Nat) (vx:Value),j≤nw∧vx=vo∧i=.int .i64 j∧Hid (NewO w.heap.size wr vx (rs.map Rl.o++l.flatMap whoS++(qs.take k).flatMap F++us.take j) (1100+40 * k+j))∧Hid (OneAt w #[.slice a0 l.length c0,.slice a1 g.length c1,.slice a2 h.length c2,.slice (some ⟨b1,o1,none⟩) qs.length c3] wr)) (fun _ i _=>nw - (intOf i).toNat)
       case atStart=>exact ⟨0,_,by omega,rfl,rfl,Lib.hid (HO2.out.eq (by simp)),HT2⟩
       case round =>
        clear HT HO HT2 HO2
        obtain ⟨j,vx,hj,rfl,rfl,HO,HT⟩:=hrel
        by_cases hlj:j < nw
        ·obtain ⟨b1,o1,e1,he1,hc1,hm1',hb1,hx1⟩:=HU.out.pos (by omega)
         simp only [Value.slice.injEq,true_and] at he1
         obtain ⟨rfl,rfl⟩:=he1
         have hju:j < us.length:=by have:=HNW.out;omega
         have p0:=(HT.out.low.cell (p:=⟨b1,o1+j,none⟩) hb1).trans (hx1 j _ (strs_get hju))
         have hbr:b1 < wr.heap.size:=Nat.lt_of_lt_of_le hb1 HT.out.low.size
         have PC:=Lib.hid (put_newO w.heap.size vx (1100+40 * k+j) _ us[j] _ HO.out (by omega))
         have HFJ:=Lib.hid (take_snoc hju)
         clear hx1
         generalize us[j]=s at *
         go_wp2_with fail
         refine PC.out.mono ?_
         rintro e w3 ⟨vz,rfl,hr,hb3⟩
         have HR3:=Lib.hid hr
         have HT3:=Lib.hid (HT.out.later hb3)
         clear hr hb3
         go_wp2
         exact ⟨⟨j+1,_,by omega,rfl,by go_num,Lib.hid (HR3.out.eq (by rw [HFJ.out];simp only [List.append_assoc])),HT3⟩,by simp [intOf];omega⟩
        ·have HO3:=Lib.hid ((HO.out.mono (show 1100+40 * k+j≤1100+40 * (k+1) by omega)).eq (ys:=rs.map Rl.o++l.flatMap whoS++(qs.take (k+1)).flatMap F) (by rw [HF.out,List.take_of_length_le (show us.length≤j by have:=HNW.out;omega)];simp only [List.append_assoc]))
         go_wp2
         exact ⟨⟨k+1,_,by omega,rfl,by go_num,HO3,HT⟩,by simp [intOf];omega⟩
      ·have HO3:=Lib.hid ((HO.out.mono (show 1100+40 * k≤10000 by omega)).eq (ys:=allPrins l g h qs F) (by rw [HRES.out,List.take_of_length_le (show qs.length≤k by omega)]))
       go_wp2
       go_ret
       exact ⟨_,rfl,HO3.out,HT.out.low⟩

set_option maxRecDepth 100000 in
set_option maxHeartbeats 8000000 in
theorem ref5_NamesO (v0 v1 v2 v3:Value) (l:List St) (g h:List Rl) (qs:List Qv) (w:World) (hp:PolAt w v0 v1 v2 v3 l g h qs) (hl:l.length≤100) (hg:g.length≤100) (hh:h.length≤100) (hq:qs.length≤100)  :
  Calls Tryz.prog 57 #[pv v0 v1 v2 v3] w fun e w' => ∃ v,e=.returned v∧NewO w.heap.size w' v (allNames l g h qs) 10000∧Below w.heap.size w w':=by
 have HP:=Lib.hid hp
 have HR:=Lib.hid (fun W (hb:Below w.heap.size w W)=>ref5_RolesL v0 v1 v2 v3 l g h qs W (hp.below hb) hl hg hh hq)
 obtain ⟨a0,c0,rfl⟩:=hp.rs.form
 obtain ⟨a1,c1,rfl⟩:=hp.rg.form
 obtain ⟨a2,c2,rfl⟩:=hp.rh.form
 obtain ⟨a3,c3,rfl⟩:=hp.rq.form
 have HT:=Lib.hid (show OneAt w #[.slice a0 l.length c0,.slice a1 g.length c1,.slice a2 h.length c2,.slice a3 qs.length c3] (w.alloc (.cells #[.slice a0 l.length c0,.slice a1 g.length c1,.slice a2 h.length c2,.slice a3 qs.length c3] 26)) from ⟨Blk.new w _ _,(Below.refl _ _).alloc (Nat.le_refl _) _⟩)
 clear hp 
 go_enter Tryz.func57,Tryz.ntmps57
 go_wp2_with fail
 refine (HR.out _ HT.out.low).mono ?_
 rintro e w1 ⟨vr,rfl,hr1,hr2,hr3,hb1⟩
 have HT:=Lib.hid (HT.out.later hb1)
 have HRES:=Lib.hid (show allNames l g h qs=((allRoles l g h qs).map Rl.n++l.flatMap viaS)  from rfl)
 generalize allRoles l g h qs=rs at *
 have HRS:=Lib.hid hr1
 have HRL:=Lib.hid hr3
 obtain ⟨ro,rc,rfl⟩:=hr1.form
 clear hb1 hr1 hr3
 go_wp2_with fail
 go_loopw [3,11] (fun vo i wr => ∃ (k:Nat) (vx:Value),k≤rs.length∧vx=vo∧i=.int .i64 k∧Hid (NewO w.heap.size wr vx ((rs.take k).map Rl.n) k)∧Hid (OneAt w #[.slice a0 l.length c0,.slice a1 g.length c1,.slice a2 h.length c2,.slice a3 qs.length c3] wr)∧Hid (Below w1.heap.size w1 wr)) (fun _ i _=>rs.length - (intOf i).toNat)
 case atStart=>exact ⟨0,_,by omega,rfl,rfl,Lib.hid (NewO.nil _ _ HT.out.low.size),HT,Lib.hid (Below.refl _ _)⟩
 case round =>
  clear HT
  obtain ⟨k,vx,hk,rfl,rfl,HO,HT,HB⟩:=hrel
  by_cases hlt:k < rs.length
  ·obtain ⟨b1,o1,e1,he1,hc1,hm1',hb1,hx1⟩:=HRS.out.pos (by omega)
   simp only [Value.slice.injEq,true_and] at he1
   obtain ⟨rfl,rfl⟩:=he1
   obtain ⟨p0,p1⟩:=rl_cell (w:=wr) (fun j u hu=>(HB.out.cell (p:=⟨b1,o1+j,none⟩) hb1).trans (hx1 j u hu)) k hlt
   have hbr:b1 < wr.heap.size:=Nat.lt_of_lt_of_le hb1 HB.out.size
   have HF:=Lib.hid (take_snoc hlt)
   clear hx1
   generalize rs[k]=x at *
   obtain ⟨x1,x2⟩:=x
   have hba:Below wr.heap.size wr (wr.alloc (.cells #[.string x1,.string x2] 28)):=(Below.refl _ _).alloc (Nat.le_refl _) _
   have PC:=Lib.hid (put_newO w.heap.size vx k _ x2 _ (HO.out.below hba) (by omega))
   have HT2:=Lib.hid (HT.out.later hba)
   have HB2:=Lib.hid (HB.out.trans (hba.mono HB.out.size))
   clear hba
   go_wp2_with fail
   refine PC.out.mono ?_
   rintro e w3 ⟨vz,rfl,hr,hb3⟩
   have HR3:=Lib.hid hr
   have HT3:=Lib.hid (HT2.out.later hb3)
   have HB3:=Lib.hid (HB2.out.trans (hb3.mono HB2.out.size))
   clear hr hb3
   go_wp2
   exact ⟨⟨k+1,_,by omega,rfl,by go_num,Lib.hid (HR3.out.eq (by rw [HF.out,List.map_append];rfl)),HT3,HB3⟩,by simp [intOf];omega⟩
  ·obtain ⟨ca,fa,za⟩:=HT.out.a
   have HO:=Lib.hid ((HO.out.mono (show k≤1000 by omega)).eq (ys:=rs.map Rl.n) (by rw [List.take_of_length_le (show rs.length≤k by omega)]))
   clear HB HRS HRL hk
   go_wp2_with fail
   clear ca fa za
   go_loopw [3,23] (fun vo i wr => ∃ (k:Nat) (vx:Value),k≤l.length∧vx=vo∧i=.int .i64 k∧Hid (NewO w.heap.size wr vx (rs.map Rl.n++(l.take k).flatMap viaS) (1000+k))∧Hid (OneAt w #[.slice a0 l.length c0,.slice a1 g.length c1,.slice a2 h.length c2,.slice a3 qs.length c3] wr)) (fun _ i _=>l.length - (intOf i).toNat)
   case atStart=>exact ⟨0,_,by omega,rfl,rfl,Lib.hid (HO.out.eq (by simp)),HT⟩
   case round =>
    clear HT HO
    obtain ⟨k,vx,hk,rfl,rfl,HO,HT⟩:=hrel
    by_cases hlt:k < l.length
    ·obtain ⟨b1,o1,e1,he1,hc1,hm1',hb1,hx1⟩:=HP.out.rs.pos (by omega)
     simp only [Value.slice.injEq,true_and] at he1
     obtain ⟨rfl,rfl⟩:=he1
     obtain ⟨p0,p1,p2,p3,p4,p5,p6,p7,p8⟩:=st_cell (w:=wr) (fun j u hu=>(HT.out.low.cell (p:=⟨b1,o1+j,none⟩) hb1).trans (hx1 j u hu)) k hlt
     have hbr:b1 < wr.heap.size:=Nat.lt_of_lt_of_le hb1 HT.out.low.size
     have HF:=Lib.hid (flat_snocF viaS hlt)
     clear hx1
     generalize l[k]=x at *
     obtain ⟨xk,⟨x1,x2⟩,xw,⟨x3,x4⟩,⟨x5,x6⟩,xv⟩:=x
     have hba:Below wr.heap.size wr (wr.alloc (.cells #[.int .i64 xk,.string x1,.string x2,.string xw,.string x3,.string x4,.string x5,.string x6,.string xv] 74)):=(Below.refl _ _).alloc (Nat.le_refl _) _
     have PC:=Lib.hid (put_newO w.heap.size vx (1000+k) _ xv _ (HO.out.below hba) (by omega))
     have HT2:=Lib.hid (HT.out.later hba)
     have HO2:=Lib.hid (HO.out.below hba)
     clear hba
     by_cases hkk:xk=3
     ·have d1:(xk == 3)=true:=by simp [hkk]
      have HK:=Lib.hid (show viaS ⟨xk,⟨x1,x2⟩,xw,⟨x3,x4⟩,⟨x5,x6⟩,xv⟩=[xv] from if_pos hkk)
      clear hkk
      go_wp2_with fail
      refine PC.out.mono ?_
      rintro e w3 ⟨vz,rfl,hr,hb3⟩
      have HR3:=Lib.hid hr
      have HT3:=Lib.hid (HT2.out.later hb3)
      clear hr hb3
      go_wp2
      exact ⟨⟨k+1,_,by omega,rfl,by go_num,Lib.hid (HR3.out.eq (by rw [HF.out,HK.out,List.append_assoc])),HT3⟩,by simp [intOf];omega⟩
     ·have d1:(xk == 3)=false:=by simp [hkk]
      have HK:=Lib.hid (show viaS ⟨xk,⟨x1,x2⟩,xw,⟨x3,x4⟩,⟨x5,x6⟩,xv⟩=[] from if_neg hkk)
      clear hkk
      go_wp2
      exact ⟨⟨k+1,_,by omega,rfl,by go_num,Lib.hid ((HO2.out.mono (by omega)).eq (by rw [HF.out,HK.out,List.append_nil])),HT2⟩,by simp [intOf];omega⟩
    ·have HO3:=Lib.hid ((HO.out.mono (show 1000+k≤10000 by omega)).eq (ys:=allNames l g h qs) (by rw [HRES.out,List.take_of_length_le (show l.length≤k by omega)]))
     go_wp2
     go_ret
     exact ⟨_,rfl,HO3.out,HT.out.low⟩
end
section
open Go.RowKit Go.Shelf

set_option maxRecDepth 100000 in
set_option maxHeartbeats 8000000 in
theorem ref5_SortO (va:Value) (l:List Rl) (w:World) (ha:SlA w 2 va l.length (l.flatMap Rl.cells)) (hl:l.length≤1000) :
  Calls Tryz.prog 80 #[va] w fun e w' => ∃ v,e=.returned v∧w'.ownsRow w.heap.size 28 2 v (insAllR [] l).length ((insAllR [] l).flatMap Rl.cells)∧Below w.heap.size w w':=by
 by_cases h0:0 < l.length
 ·obtain ⟨b1,o1,c1,rfl,hc1,hm1,hb1,hx1⟩:=ha.pos h0
  have HX1:=Lib.hid hx1
  clear ha hx1
  go_enter Tryz.func80,Tryz.ntmps80
  go_wp2
  go_loopw [3,10] (fun vo i wr => ∃ (k:Nat) (acc:List Rl),k≤l.length∧acc.length≤k∧i=.int .i64 k∧Below w.heap.size w wr∧wr.ownsRow w.heap.size 28 2 vo acc.length (acc.flatMap Rl.cells)∧Hid (insAllR [] l=insAllR acc (l.drop k))) (fun _ i _=>l.length - (intOf i).toNat)
  case atStart=>exact ⟨0,[],by omega,by simp,rfl,Below.refl _ _,World.ownsRow_nil _ _ _ _,Lib.hid (by simp)⟩
  case round =>
   obtain ⟨k,acc,hk,hak,rfl,hbw,hso,HI⟩:=hrel
   have HBW:=Lib.hid hbw
   have HSO:=Lib.hid (Sl.of_own hso)
   have HSN:=Lib.hid hso
   have hz:=hbw.size
   by_cases hlt:k < l.length
   ·obtain ⟨p0,p1⟩:=rl_cell (w:=wr) (fun j u hu=>(hbw.cell (p:=⟨b1,o1+j,none⟩) hb1).trans (HX1.out j u hu)) k hlt
    have hbr:b1 < wr.heap.size:=Nat.lt_of_lt_of_le hb1 hz
    have HST:=Lib.hid (HI.out.trans (insAll_stepR acc l k hlt))
    have hx:l[k]=⟨l[k].o,l[k].n⟩:=rfl
    generalize l[k].o=x1 at *
    generalize l[k].n=x2 at *
    rw [hx] at HST
    clear hx hbw hso HI
    obtain ⟨ao,co,rfl⟩:=HSO.out.form
    go_wp2_with fail
    have HX:=Lib.hid (Blk.new wr #[.string x1,.string x2] 28)
    have HS2:=Lib.hid (HSO.out.below ((Below.refl wr.heap.size wr).alloc (Nat.le_refl _) (.cells #[.string x1,.string x2] 28)))
    refine (ref5_Has _ acc ⟨x1,x2⟩ _ HS2.out.a).mono ?_
    rintro e w2 ⟨rfl,hb2⟩
    have HX2:=Lib.hid (HX.out.below hb2)
    have HS3:=Lib.hid (HS2.out.below hb2)
    have HB2:=Lib.hid ((HBW.out.alloc HBW.out.size _).trans (hb2.mono (Nat.le_trans HBW.out.size (by simp))))
    have hz2:=HB2.out.size
    have HSN2:=Lib.hid (own_below (HSN.out.alloc _) hb2)
    clear HSN
    clear hb2 HX HS2 HSO p0 p1
    cases hh:hasR acc ⟨x1,x2⟩ with
    | true =>
     have HE:=Lib.hid (HST.out.trans (by rw [insS_hasR hh]))
     clear hh
     go_wp2_with fail
     exact ⟨⟨k+1,acc,by omega,by omega,by go_num,HB2.out,HSN2.out,HE⟩,by simp [intOf];omega⟩
    | false =>
     have HE:=Lib.hid (HST.out.trans (by rw [insS_notR hh]))
     clear hh HST
     obtain ⟨g,hg⟩:∃ g,wr.heap.size=g:=⟨_,rfl⟩
     rw [hg] at HX2 ⊢
     clear hg hbr HBW hz
     go_wp2_with fail
     go_loopw [6] (fun i wr => ∃ j:Nat,j≤acc.length∧i=.int .i64 j∧Below w2.heap.size w2 wr∧Hid (∀ m (hm:m < acc.length),m < j→cmpR acc[m] ⟨x1,x2⟩ < 0)) (fun i _=>acc.length - (intOf i).toNat)
     case atStart=>exact ⟨0,by omega,rfl,Below.refl _ _,Lib.hid (fun _ _ h=>absurd h (by omega))⟩
     case round =>
      obtain ⟨j,hj,rfl,hbj,HJ⟩:=hrel
      have HBJ:=Lib.hid hbj
      by_cases hjl:j < acc.length
      ·obtain ⟨b2,o2,c2,he2,hc2,hm2,hb2,hx2⟩:=HS3.out.pos (by omega)
       simp only [Value.slice.injEq,true_and] at he2
       obtain ⟨rfl,rfl⟩:=he2
       obtain ⟨q0,q1⟩:=rl_cell (w:=wr) (fun m u hu=>(hbj.cell (p:=⟨b2,o2+m,none⟩) hb2).trans (hx2 m u hu)) j hjl
       have hbj2:b2 < wr.heap.size:=Nat.lt_of_lt_of_le hb2 hbj.size
       have HX3:=HX2.out.below hbj
       have cx:=HX3.1
       have HBF:=fun W=>ref3_LessD acc[j] ⟨x1,x2⟩ W
       have d:decide ((j:Int) < (acc.length:Int))=true:=by (rw [decide_eq_true_iff];omega)
       have HX4:Blk wr.drew g #[.string x1,.string x2]:=HX3
       have HQ4:Two wr.drew b2 (o2+j * 2) acc[j]:=⟨q0,q1⟩
       have HB4:Below w2.heap.size w2 wr.drew:=below_drew hbj
       clear hx2 hbj
       cases hlt':decide (cmpR acc[j] ⟨x1,x2⟩ < 0) with
       | true =>
        have HN:Hid (∀ m (hm:m < acc.length),m < j+1→cmpR acc[m] ⟨x1,x2⟩ < 0):=Lib.hid (fun m hm hmj=>by
         by_cases hmj':m < j
         ·exact HJ.out m hm hmj'
         ·obtain rfl:m=j:=by omega
          exact of_decide_eq_true hlt')
        rw [hlt'] at HBF
        clear hlt'
        go_wp2_with fail
        go_region_held3 (fun W=>(∀ o,W.cell? ⟨g,o,none⟩=(#[.string x1,.string x2]:Array Value)[o]?)∧Two W b2 (o2+j * 2) acc[j])
         (first | exact ⟨HX4.1,HQ4⟩ | go_keep)
         ((go_at_call 164;refine (HBF _).mono ?_;rintro e wq ⟨rfl,hbq⟩;have HQ4:=HQ4.below hbj2 hbq;have HX4:=HX4.below hbq;have HB4:=HB4.trans (hbq.mono HB4.size)))
        go_wp2
        exact ⟨⟨j+1,by omega,by go_num,HB4,HN⟩,by simp [intOf];omega⟩
       | false =>
        have HLT:=Lib.hid hlt'
        rw [hlt'] at HBF
        clear hlt'
        go_wp2_with fail
        go_region_held3 (fun W=>(∀ o,W.cell? ⟨g,o,none⟩=(#[.string x1,.string x2]:Array Value)[o]?)∧Two W b2 (o2+j * 2) acc[j])
         (first | exact ⟨HX4.1,HQ4⟩ | go_keep)
         ((go_at_call 164;refine (HBF _).mono ?_;rintro e wq ⟨rfl,hbq⟩;have HQ4:=HQ4.below hbj2 hbq;have HX4:=HX4.below hbq;have HB4:=HB4.trans (hbq.mono HB4.size)))
        have hsb:=(HS3.out.below HB4).pos (by omega)
        obtain ⟨b3,o3,c3,he3,hc3,hm3,hb3,hx3⟩:=hsb
        simp only [Value.slice.injEq,Option.some.injEq,Addr.mk.injEq,true_and,and_true] at he3
        obtain ⟨⟨rfl,rfl⟩,rfl⟩:=he3
        have HSB:=Lib.hid hx3
        clear hx3
        go_wp2_with (at_builtin;refine halt_ ?_)
        unfold Halt_
        refine app_grow Tryz.underlying23 rl_info' rfl (by decide) (by decide) rfl _ _ rfl (ao:=some ⟨wq.heap.size,0,none⟩) (n:=0) (cap:=0) (olds:=[]) rfl (by simp) (by simp) (by simp) (b:=b2) (off:=o2+j * 2) (m:=acc.length - j) (c:=co - j) (news:=(acc.drop j).flatMap Rl.cells) rfl ?_ ?_ (rls_one _) (by omega) (by omega) ?_
        ·rw [flat_len _ 2 Rl.cells_len,List.length_drop]
        ·intro i u hu
         rw [flat_dropR acc j hj] at hu
         have:=HSB.out _ _ hu
         rw [← Nat.add_assoc] at this
         exact (World.cell?_alloc_past _ _ _ hb3).trans this
        intro v5 w5 hown5 hb5
        have hwq:wq.heap.size < (wq.alloc (.cells #[] 28)).heap.size:=by simp
        have HX5:Blk w5 g #[.string x1,.string x2]:=(HX4.alloc _).below hb5
        have hh5:b2 < w5.heap.size:=Nat.lt_of_lt_of_le hb3 (Nat.le_trans (Nat.le_of_lt hwq) hb5.size)
        have HS5:∀ i u,(acc.flatMap Rl.cells)[i]? = some u→w5.cell? ⟨b2,o2+i,none⟩=some u:=fun i u hu=>(hb5.cell (p:=⟨b2,o2+i,none⟩) (Nat.lt_trans hb3 hwq)).trans ((World.cell?_alloc_past _ _ _ hb3).trans (HSB.out i u hu))
        have HB5:Below w2.heap.size w2 w5:=(HB4.alloc HB4.size _).trans (hb5.mono (Nat.le_trans HB4.size (Nat.le_of_lt hwq)))
        simp only [Nat.zero_add,List.nil_append] at hown5
        obtain ⟨g5,c5,rfl,hg5a,hg5b⟩:=hown5.form (show 0 < acc.length - j by omega)
        have HO5:=Lib.hid hown5
        have HB5':=Lib.hid HB5
        obtain ⟨inf,hi,hz0,hz1,hz2⟩:=info_parts rl_info'
        have HINF:=Lib.hid hi
        have HX6:Blk w5.drew g #[.string x1,.string x2]:=HX5
        have HSX:=Lib.hid (fun i u (hu:(acc.flatMap Rl.cells)[i]? = some u)=>show w5.drew.cell? ⟨b2,o2+i,none⟩=some u from HS5 i u hu)
        have HOD:=Lib.hid (show w5.drew.ownsRow _ _ 2 _ _ _ from hown5)
        have c5x:=HX5.1
        have hgb:g < (w5.drew.alloc (.cells #[.string x1,.string x2] 28)).heap.size:=Nat.lt_of_lt_of_le HX6.2.2 (((Below.refl _ w5.drew).alloc (Nat.le_refl _) _).size)
        have hi1:(0:Int)≤(j:Int):=by omega
        have hi2:(j:Int)≤(acc.length:Int):=by omega
        have hi3:(j:Int)≤(co:Int):=by omega
        clear hown5 hb5 HS5 HB5 HX5 HX4 HB4 HQ4 hi HBF hwq hb3 hbq cx HX3 q0 q1 d
        go_wp2_with fail
        go_region_held3 (fun W => ∀ o,W.cell? ⟨g,o,none⟩=(#[.string x1,.string x2]:Array Value)[o]?)
         (first | exact HX6.1 | exact (HX6.alloc _).1 | exact HX7.1 | exact HX9.1 | go_keep)
         (first
          | (refine step_append_grows rfl _ _ 23 rfl 28 inf _ 2 32 Tryz.underlying23 HINF.out hz0 hz1 hz2 rfl (Nat.le_of_ble_eq_true rfl) (some ⟨b2,o2,none⟩) j j ((acc.take j).flatMap Rl.cells) rfl ?_ (take_len9R acc j hj) ?_ ⟨w5.heap.size,0,none⟩ 1 1 (Rl.cells ⟨x1,x2⟩) rfl rfl ?_ (rl1 x1 x2) (Nat.lt_succ_self _) ?_ ?_ ?_;(intro h;cases h);(intro b hb i u hu;cases hb;rw [addr_add];exact (World.cell?_alloc_past _ _ _ hh5).trans (HSX.out i u (flat_takeR acc j i u hu)));exact cells_new _ _ _ _ rfl;(simp only [maxLen];omega);omega;intro v7 w7 hown7 hg7;have hb7:=below_of_none hg7;have HX7:=(HX6.alloc _).below hb7;have HO7:=own_below (own_below HOD.out ((Below.refl _ _).alloc (Nat.le_refl _) _)) hb7)
          | (refine step_append_lies _ rfl _ _ 23 rfl _ 28 inf _ 2 32 Tryz.underlying23 HINF.out hz0 hz1 hz2 rfl (Nat.le_of_ble_eq_true rfl) v7 (j+1) _ rfl hown7 ⟨g5,0,none⟩ (acc.length - j) c5 ((acc.drop j).flatMap Rl.cells) rfl (drop_len9R acc j) (HO7.cells (g:=g5) rfl) (rls_one _) ?_ ?_ ?_ hb7.size _ rfl ?_;omega;(simp only [maxLen];omega);omega;intro g9 c9 w9 hown9 hg9 hor9 hlt9;have HX9:=HX7.grown hg9 (own_gt_ne hown7 hgb)))
        have HBw5:=HB2.out.trans (HB5'.out.mono HB2.out.size)
        have HBw6:=(below_drew HBw5).alloc (B:=w.heap.size) HBw5.size (.cells #[.string x1,.string x2] 28)
        have HBw7:=HBw6.trans (hb7.mono HBw6.size)
        have HB9:=Lib.hid (below_own HBw7 hown7 hg9 HBw7.size HBw6.size)
        have HSL9:=Lib.hid (Sl.of_own hown9)
        have HON9:=Lib.hid (own_mono hown9 HBw6.size)
        have HPS:=Lib.hid (pos_ofR acc ⟨x1,x2⟩ j hj HJ.out (fun _=>of_decide_eq_false HLT.out))
        clear hown9 hg9 hown7 hg7 hb7 HX9 HX7 HO7 HBw5 HBw6 HBw7
        go_wp2
        exact ⟨⟨k+1,insAtR acc ⟨x1,x2⟩ j,by omega,by rw [insAt_lenR hj];omega,by go_num,HB9.out,by rw [insAt_lenR hj,← sl_appR hj];exact HON9.out,Lib.hid (by rw [HE.out,HPS.out])⟩,by simp [intOf];omega⟩
      ·obtain rfl:j=acc.length:=by omega
       have HPS:=Lib.hid (pos_ofR acc ⟨x1,x2⟩ acc.length (Nat.le_refl _) HJ.out (fun h=>absurd h hjl))
       obtain ⟨inf,hi,hz0,hz1,hz2'⟩:=info_parts rl_info'
       have HINF:=Lib.hid hi
       have HX3:=HX2.out.below hbj
       have cx:=HX3.1
       have d:decide ((acc.length:Int) < (acc.length:Int))=false:=by (rw [decide_eq_false_iff_not];omega)
       clear hi hjl hj
       rcases HS3.out.2.2 with ⟨hv,hn0⟩ | ⟨b2,o2,c2,hv,hc2,hm2,hb2,hx2⟩
       ·skip
        have hacc:acc=[]:=List.eq_nil_of_length_eq_zero hn0
        simp only [Value.slice.injEq,true_and] at hv
        obtain ⟨rfl,-,rfl⟩:=hv
        simp only [hn0]
        clear d
        clear hbj
        go_wp2_with fail
        go_big_quiet (fail)
        go_wp2_with (at_builtin;refine halt_ ?_)
        unfold Halt_
        refine app_zero _ rfl _ _ 23 rfl 28 inf Tryz.underlying23 HINF.out (some ⟨wr.heap.size,0,none⟩) 0 0 (Nat.le_refl _) rfl _ _ rfl ?_
        obtain ⟨w5,hw5⟩:∃ w5,w5=(wr.drewN nq).alloc (.cells #[] 28):=⟨_,rfl⟩
        have hb5:Below wr.heap.size wr w5:=by rw [hw5];exact (below_drewN (Below.refl _ _) _).alloc (Nat.le_refl _) _
        have hh0:wr.heap.size≤w5.heap.size:=hb5.size
        rw [← hw5]
        have HX5:Blk w5 g #[.string x1,.string x2]:=HX3.below hb5
        have HB5':=Lib.hid (HBJ.out.trans (hb5.mono HBJ.out.size))
        have HX6:Blk w5.drew g #[.string x1,.string x2]:=HX5
        have c5x:=HX5.1
        have hgb:g < (w5.drew.alloc (.cells #[.string x1,.string x2] 28)).heap.size:=Nat.lt_of_lt_of_le HX6.2.2 (((Below.refl _ w5.drew).alloc (Nat.le_refl _) _).size)
        clear hw5 hb5 HX5 HX3 cx
        go_wp2_with fail
        go_region_held3 (fun W => ∀ o,W.cell? ⟨g,o,none⟩=(#[.string x1,.string x2]:Array Value)[o]?)
         (first | exact HX6.1 | exact (HX6.alloc _).1 | exact HX7.1 | go_keep)
         (first
          | (refine step_append_grows rfl _ _ 23 rfl 28 inf _ 2 32 Tryz.underlying23 HINF.out hz0 hz1 hz2' rfl (Nat.le_of_ble_eq_true rfl) none 0 0 [] rfl ?_ rfl ?_ ⟨w5.heap.size,0,none⟩ 1 1 (Rl.cells ⟨x1,x2⟩) rfl rfl ?_ (rl1 x1 x2) (Nat.lt_succ_self _) ?_ ?_ ?_;(intro _;exact ⟨rfl,rfl⟩);(intro b hb;cases hb);exact cells_new _ _ _ _ rfl;(simp only [maxLen];omega);omega;intro v7 w7 hown7 hg7;obtain ⟨a7,c7,rfl,hc7⟩:=own_form2 hown7;have hb7:=below_of_none hg7;have HX7:=(HX6.alloc _).below hb7)
          | (refine step_zero _ rfl _ _ 23 rfl 28 inf Tryz.underlying23 HINF.out _ _ c7 hc7 rfl _ _ rfl ?_))
        have HBw5:=HB2.out.trans (HB5'.out.mono HB2.out.size)
        have HBw6:=(below_drew HBw5).alloc (B:=w.heap.size) HBw5.size (.cells #[.string x1,.string x2] 28)
        have HB9:=Lib.hid (HBw6.trans (hb7.mono HBw6.size))
        have HSL9:=Lib.hid (Sl.of_own hown7)
        have HON9:=Lib.hid (own_mono hown7 HBw6.size)
        clear hg7 hb7 hown7 HX7 HBw5 HBw6
        go_wp2
        exact ⟨⟨k+1,insAtR acc ⟨x1,x2⟩ acc.length,by omega,by rw [insAt_endR];omega,by go_num,HB9.out,by rw [insAt_endR,← app_endR,hacc];exact HON9.out,Lib.hid (by rw [HE.out,HPS.out])⟩,by simp [intOf];omega⟩
       ·simp only [Value.slice.injEq,true_and] at hv
        obtain ⟨rfl,rfl⟩:=hv
        by_cases hco:co=acc.length
        ·skip
         subst hco
         clear hbj
         go_wp2_with fail
         go_big_quiet (fail)
         go_wp2_with (at_builtin;refine halt_ ?_)
         unfold Halt_
         refine app_zero _ rfl _ _ 23 rfl 28 inf Tryz.underlying23 HINF.out (some ⟨wr.heap.size,0,none⟩) 0 0 (Nat.le_refl _) rfl _ _ rfl ?_
         obtain ⟨w5,hw5⟩:∃ w5,w5=(wr.drewN nq).alloc (.cells #[] 28):=⟨_,rfl⟩
         have hb5:Below wr.heap.size wr w5:=by rw [hw5];exact (below_drewN (Below.refl _ _) _).alloc (Nat.le_refl _) _
         have hh0:wr.heap.size≤w5.heap.size:=hb5.size
         rw [← hw5]
         have HX5:Blk w5 g #[.string x1,.string x2]:=HX3.below hb5
         have HB5':=Lib.hid (HBJ.out.trans (hb5.mono HBJ.out.size))
         have hh5:b2 < w5.heap.size:=Nat.lt_of_lt_of_le hb2 HB5'.out.size
         have HSX:=Lib.hid (fun i u (hu:(acc.flatMap Rl.cells)[i]? = some u)=>show w5.drew.cell? ⟨b2,o2+i,none⟩=some u from (HB5'.out.cell (p:=⟨b2,o2+i,none⟩) hb2).trans (hx2 i u hu))
         have hi1:(0:Int)≤(acc.length:Int):=by omega
         have hi3:(acc.length:Int)≤(acc.length:Int):=by omega
         have HX6:Blk w5.drew g #[.string x1,.string x2]:=HX5
         have c5x:=HX5.1
         have hgb:g < (w5.drew.alloc (.cells #[.string x1,.string x2] 28)).heap.size:=Nat.lt_of_lt_of_le HX6.2.2 (((Below.refl _ w5.drew).alloc (Nat.le_refl _) _).size)
         clear hw5 hb5 HX5 HX3 cx hx2
         go_wp2_with fail
         go_region_held3 (fun W => ∀ o,W.cell? ⟨g,o,none⟩=(#[.string x1,.string x2]:Array Value)[o]?)
          (first | exact HX6.1 | exact (HX6.alloc _).1 | exact HX7.1 | go_keep)
          (first
           | (refine step_append_grows rfl _ _ 23 rfl 28 inf _ 2 32 Tryz.underlying23 HINF.out hz0 hz1 hz2' rfl (Nat.le_of_ble_eq_true rfl) (some ⟨b2,o2,none⟩) acc.length acc.length (acc.flatMap Rl.cells) rfl ?_ (flat_len _ 2 Rl.cells_len acc) ?_ ⟨w5.heap.size,0,none⟩ 1 1 (Rl.cells ⟨x1,x2⟩) rfl rfl ?_ (rl1 x1 x2) (Nat.lt_succ_self _) ?_ ?_ ?_;(intro h;cases h);(intro b hb i u hu;cases hb;rw [addr_add];exact (World.cell?_alloc_past _ _ _ hh5).trans (HSX.out i u hu));exact cells_new _ _ _ _ rfl;(simp only [maxLen];omega);omega;intro v7 w7 hown7 hg7;obtain ⟨a7,c7,rfl,hc7⟩:=own_form2 hown7;have hb7:=below_of_none hg7;have HX7:=(HX6.alloc _).below hb7)
           | (refine step_zero _ rfl _ _ 23 rfl 28 inf Tryz.underlying23 HINF.out _ _ c7 hc7 rfl _ _ rfl ?_))
         have HBw5:=HB2.out.trans (HB5'.out.mono HB2.out.size)
         have HBw6:=(below_drew HBw5).alloc (B:=w.heap.size) HBw5.size (.cells #[.string x1,.string x2] 28)
         have HB9:=Lib.hid (HBw6.trans (hb7.mono HBw6.size))
         have HSL9:=Lib.hid (Sl.of_own hown7)
         have HON9:=Lib.hid (own_mono hown7 HBw6.size)
         clear hg7 hb7 hown7 HX7 HBw5 HBw6
         go_wp2
         exact ⟨⟨k+1,insAtR acc ⟨x1,x2⟩ acc.length,by omega,by rw [insAt_endR];omega,by go_num,HB9.out,by rw [insAt_endR,← app_endR];exact HON9.out,Lib.hid (by rw [HE.out,HPS.out])⟩,by simp [intOf];omega⟩
        ·skip
         have hco2:acc.length < co:=by omega
         clear hbj
         go_wp2_with fail
         go_big_quiet (fail)
         go_wp2_with (at_builtin;refine halt_ ?_)
         unfold Halt_
         refine app_zero _ rfl _ _ 23 rfl 28 inf Tryz.underlying23 HINF.out (some ⟨wr.heap.size,0,none⟩) 0 0 (Nat.le_refl _) rfl _ _ rfl ?_
         obtain ⟨w5,hw5⟩:∃ w5,w5=(wr.drewN nq).alloc (.cells #[] 28):=⟨_,rfl⟩
         have hb5:Below wr.heap.size wr w5:=by rw [hw5];exact (below_drewN (Below.refl _ _) _).alloc (Nat.le_refl _) _
         have hh0:wr.heap.size≤w5.heap.size:=hb5.size
         rw [← hw5]
         have HX5:Blk w5 g #[.string x1,.string x2]:=HX3.below hb5
         have HB5':=Lib.hid (HBJ.out.trans (hb5.mono HBJ.out.size))
         have hh5:b2 < w5.heap.size:=Nat.lt_of_lt_of_le hb2 HB5'.out.size
         have HSX:=Lib.hid (fun i u (hu:(acc.flatMap Rl.cells)[i]? = some u)=>show w5.drew.cell? ⟨b2,o2+i,none⟩=some u from (HB5'.out.cell (p:=⟨b2,o2+i,none⟩) hb2).trans (hx2 i u hu))
         have hi1:(0:Int)≤(acc.length:Int):=by omega
         have hi3:(acc.length:Int)≤(co:Int):=by omega
         have HX6:Blk w5.drew g #[.string x1,.string x2]:=HX5
         have c5x:=HX5.1
         have hgb:g < (w5.drew.alloc (.cells #[.string x1,.string x2] 28)).heap.size:=Nat.lt_of_lt_of_le HX6.2.2 (((Below.refl _ w5.drew).alloc (Nat.le_refl _) _).size)
         clear hw5 hb5 HX5 HX3 cx hx2
         go_wp2_with fail
         go_region_held3 (fun W => ∀ o,W.cell? ⟨g,o,none⟩=(#[.string x1,.string x2]:Array Value)[o]?)
          (first | exact HX6.1 | exact (HX6.alloc _).1 | exact HX7.1 | go_keep)
          (first
           | (refine step_append_grows rfl _ _ 23 rfl 28 inf _ 2 32 Tryz.underlying23 HINF.out hz0 hz1 hz2' rfl (Nat.le_of_ble_eq_true rfl) (some ⟨b2,o2,none⟩) acc.length acc.length (acc.flatMap Rl.cells) rfl ?_ (flat_len _ 2 Rl.cells_len acc) ?_ ⟨w5.heap.size,0,none⟩ 1 1 (Rl.cells ⟨x1,x2⟩) rfl rfl ?_ (rl1 x1 x2) (Nat.lt_succ_self _) ?_ ?_ ?_;(intro h;cases h);(intro b hb i u hu;cases hb;rw [addr_add];exact (World.cell?_alloc_past _ _ _ hh5).trans (HSX.out i u hu));exact cells_new _ _ _ _ rfl;(simp only [maxLen];omega);omega;intro v7 w7 hown7 hg7;obtain ⟨a7,c7,rfl,hc7⟩:=own_form2 hown7;have hb7:=below_of_none hg7;have HX7:=(HX6.alloc _).below hb7)
           | (refine step_zero _ rfl _ _ 23 rfl 28 inf Tryz.underlying23 HINF.out _ _ c7 hc7 rfl _ _ rfl ?_))
         have HBw5:=HB2.out.trans (HB5'.out.mono HB2.out.size)
         have HBw6:=(below_drew HBw5).alloc (B:=w.heap.size) HBw5.size (.cells #[.string x1,.string x2] 28)
         have HB9:=Lib.hid (HBw6.trans (hb7.mono HBw6.size))
         have HSL9:=Lib.hid (Sl.of_own hown7)
         have HON9:=Lib.hid (own_mono hown7 HBw6.size)
         clear hg7 hb7 hown7 HX7 HBw5 HBw6
         go_wp2
         exact ⟨⟨k+1,insAtR acc ⟨x1,x2⟩ acc.length,by omega,by rw [insAt_endR];omega,by go_num,HB9.out,by rw [insAt_endR,← app_endR];exact HON9.out,Lib.hid (by rw [HE.out,HPS.out])⟩,by simp [intOf];omega⟩
   ·have R:=Lib.hid (HI.out.trans (insAll_endR acc l k hlt))
    have HSN:=Lib.hid hso
    obtain ⟨ao,co,rfl⟩:=(Sl.of_own hso).form
    clear hbw hso
    go_wp2
    go_ret
    exact ⟨_,rfl,by rw [R.out];exact HSN.out,HBW.out⟩
 ·obtain ⟨a1,c1,rfl⟩:=ha.form
  obtain rfl:l=[]:=List.eq_nil_of_length_eq_zero (by omega)
  clear ha h0 hl
  go_enter Tryz.func80,Tryz.ntmps80
  go_wp2
  go_loopw [3,10] (fun vo i wr=>vo=.slice none 0 0∧i=.int .i64 0∧wr=w) (fun _ _ _=>0)
  case atStart=>exact ⟨rfl,rfl,rfl⟩
  case round =>
   obtain ⟨rfl,rfl,rfl⟩:=hrel
   go_wp2
   go_ret
   exact ⟨_,rfl,World.ownsRow_nil _ _ _ _,Below.refl _ _⟩

end
section
open Go.RowKit Go.Shelf

theorem filter_mapSnoc {α β:Type} {B:List α} {f:α→β} {p:β→Bool} {k:Nat} (hk:k < B.length):((B.take (k+1)).map f).filter p=((B.take k).map f).filter p++(if p (f B[k])=true then [f B[k]] else []):=by
 rw [map_snocT hk,List.filter_append,List.filter_cons,List.filter_nil]
section
variable {w:World} {v0 v1 v2 v3:Value} {l:List St} {g h:List Rl} {qs:List Qv} {F:Qv→List ByteArray} {PS NS:List ByteArray}
theorem ref5_PrinsX (P:PolX w v0 v1 v2 v3 l g h qs F PS NS):Calls Tryz.prog 55 #[pv v0 v1 v2 v3] w fun e w' => ∃ v,e=.returned v∧w'.ownsRow w.heap.size 9 1 v PS.length (strs PS)∧Below w.heap.size w w':=by
 refine (ref5_PrinsO v0 v1 v2 v3 l g h qs w P.at_ P.hl P.hg P.hh P.hq F P.hF).mono ?_
 rintro e w' ⟨v,rfl,⟨⟨h1,_⟩,_⟩,hb⟩
 rw [P.eP] at h1
 exact ⟨v,rfl,h1,hb⟩
theorem ref5_NamesX (P:PolX w v0 v1 v2 v3 l g h qs F PS NS):Calls Tryz.prog 57 #[pv v0 v1 v2 v3] w fun e w' => ∃ v,e=.returned v∧w'.ownsRow w.heap.size 9 1 v NS.length (strs NS)∧Below w.heap.size w w':=by
 refine (ref5_NamesO v0 v1 v2 v3 l g h qs w P.at_ P.hl P.hg P.hh P.hq).mono ?_
 rintro e w' ⟨v,rfl,⟨⟨h1,_⟩,_⟩,hb⟩
 rw [P.eN] at h1
 exact ⟨v,rfl,h1,hb⟩
set_option maxRecDepth 100000 in
set_option maxHeartbeats 2000000 in
theorem ref12_Fresh (P:PolX w v0 v1 v2 v3 l g h qs F PS NS):Calls Tryz.prog 84 #[pv v0 v1 v2 v3] w fun e w'=>e=.returned (.string (freshB PS))∧Below w.heap.size w w':=by
 have PP:=Lib.hid (fun W (hb:Below w.heap.size w W)=>ref5_PrinsX (P.below hb))
 have hps:=P.hps
 obtain ⟨a0,c0,rfl⟩:=P.at_.rs.form
 obtain ⟨a1,c1,rfl⟩:=P.at_.rg.form
 obtain ⟨a2,c2,rfl⟩:=P.at_.rh.form
 obtain ⟨a3,c3,rfl⟩:=P.at_.rq.form
 have HT:=Lib.hid (show OneAt w #[.slice a0 l.length c0,.slice a1 g.length c1,.slice a2 h.length c2,.slice a3 qs.length c3] (w.alloc (.cells #[.slice a0 l.length c0,.slice a1 g.length c1,.slice a2 h.length c2,.slice a3 qs.length c3] 26)) from ⟨Blk.new w _ _,(Below.refl _ _).alloc (Nat.le_refl _) _⟩)
 clear P
 go_enter Tryz.func84,Tryz.ntmps84
 go_wp2_with fail
 refine (PP.out _ HT.out.low).mono ?_
 rintro e w1 ⟨vp,rfl,ho,hb1⟩
 obtain ⟨ao,co,rfl⟩:=own_form ho
 have HT:=Lib.hid (HT.out.later hb1)
 have HS:=Lib.hid (Sl.of_own ho)
 clear ho hb1 PP
 go_wp2_with fail
 refine (ref1_Fresh1 (.slice ao PS.length co) PS _ HS.out.a (by omega)).mono ?_
 rintro e w3 ⟨g3,c3',rfl,hs,hb3⟩
 have HT:=Lib.hid (HT.out.later hb3)
 obtain ⟨b4,o4,c4,he,hc4,hm4,hb4,hx4⟩:=hs.pos (by omega)
 simp only [Value.slice.injEq,Option.some.injEq,Addr.mk.injEq,true_and,and_true] at he
 obtain ⟨⟨rfl,rfl⟩,rfl⟩:=he
 have p0:=hx4 0 _ rfl
 simp only [Nat.add_zero] at p0
 clear hs hb3 hx4
 go_wp2
 go_ret
 exact ⟨rfl,HT.out.low⟩
set_option maxRecDepth 100000 in
set_option maxHeartbeats 4000000 in
theorem ref12_Prins (P:PolX w v0 v1 v2 v3 l g h qs F PS NS):Calls Tryz.prog 127 #[pv v0 v1 v2 v3] w fun e w' => ∃ v,e=.returned v∧w'.ownsRow w.heap.size 9 1 v (putX PS).length (strs (putX PS))∧Below w.heap.size w w':=by
 have PP:=Lib.hid (fun W (hb:Below w.heap.size w W)=>ref5_PrinsX (P.below hb))
 have FR:=Lib.hid (fun W (hb:Below w.heap.size w W)=>ref12_Fresh (P.below hb))
 have PE:=Lib.hid (show insSB PS (freshB PS)=putX PS from rfl)
 have hps:=P.hps
 obtain ⟨a0,c0,rfl⟩:=P.at_.rs.form
 obtain ⟨a1,c1,rfl⟩:=P.at_.rg.form
 obtain ⟨a2,c2,rfl⟩:=P.at_.rh.form
 obtain ⟨a3,c3,rfl⟩:=P.at_.rq.form
 have HT:=Lib.hid (show OneAt w #[.slice a0 l.length c0,.slice a1 g.length c1,.slice a2 h.length c2,.slice a3 qs.length c3] (w.alloc (.cells #[.slice a0 l.length c0,.slice a1 g.length c1,.slice a2 h.length c2,.slice a3 qs.length c3] 26)) from ⟨Blk.new w _ _,(Below.refl _ _).alloc (Nat.le_refl _) _⟩)
 clear P
 generalize putX PS=PX at *
 generalize freshB PS=x at *
 go_enter Tryz.func127,Tryz.ntmps127
 go_wp2_with fail
 refine wp_region_held_drew (S:=(fun W => ∀ o,W.cell? ⟨w.heap.size,o,none⟩=(#[.slice a0 l.length c0,.slice a1 g.length c1,.slice a2 h.length c2,.slice a3 qs.length c3]:Array Value)[o]?)) (by kernel_rfl) HT.out.drew.a.1 (fun hHeld=>?_)
 have HT:=HT.out.drew
 obtain ⟨wk,hwk⟩:∃ W,W=(w.alloc (.cells #[.slice a0 l.length c0,.slice a1 g.length c1,.slice a2 h.length c2,.slice a3 qs.length c3] 26)).drew:=⟨_,rfl⟩
 rw [← hwk] at HT hHeld ⊢
 clear hwk
 (refine hyes 0 ?_);(refine hyes 2 ?_);(try simp only [Act.put,List.setIfInBounds_toArray,List.set])
 (refine held_call 1 rfl (by kernel_rfl) (fun K hK=>?_);go_simp)
 go_at_call 55;refine (PP.out _ HT.low).mono ?_;rintro e w1 ⟨vp,rfl,ho,hb⟩;have hbz:=HT.low.size;have HT1:=HT.later hb;have ho:=own_mono ho hbz;obtain ⟨ao,co,hv⟩:=own_form ho;subst hv;clear PP hb hbz
 (refine hK.out _ _ (HT1.a.1) (fun hHeld=>?_);clear hK K;(try simp only [Act.put,List.setIfInBounds_toArray,List.set]))
 (refine held_call 3 rfl (by kernel_rfl) (fun K hK=>?_);go_simp)
 go_at_call 84;refine (FR.out _ HT1.low).mono ?_;rintro e w2 ⟨rfl,hb2⟩;have HT2:=HT1.later hb2;have ho2:=Lib.hid (own_below ho hb2);clear FR ho hb2
 (refine hK.out _ _ (HT2.a.1) (fun hHeld=>?_);clear hK K;(try simp only [Act.put,List.setIfInBounds_toArray,List.set]))
 (refine held_call 4 rfl (by kernel_rfl) (fun K hK=>?_);go_simp)
 go_at_call 135;refine (ref1_PutO (.slice ao PS.length co) PS x _ (Sl.of_own ho2.out).a (by omega)).mono ?_;rintro e w3 ⟨v3',rfl,hr,hb3⟩;rw [PE.out] at hr;have HT3:=HT2.later hb3;have HR:Hid (w3.ownsRow w.heap.size 9 1 v3' PX.length (strs PX)):=Lib.hid (by
  rcases hr with ⟨rfl,e1⟩ | hr
  ·rw [e1];exact own_below ho2.out hb3
  ·exact own_mono hr HT2.low.size);obtain ⟨a3',c3',hv⟩:=own_form HR.out;subst hv;clear hr hb3
 (refine hK.out _ _ (HT3.a.1) (fun hHeld=>?_);clear hK K;(try simp only [Act.put,List.setIfInBounds_toArray,List.set]))
 (refine hyes 5 ?_);(try simp only [Act.put,List.setIfInBounds_toArray,List.set])
 refine wpAnyH_done (by kernel_rfl) ?_ _
 have HT:=Lib.hid HT3
 clear HT3
 go_wp2
 go_ret
 exact ⟨_,rfl,HR.out,HT.out.low⟩
set_option maxRecDepth 100000 in
set_option maxHeartbeats 8000000 in
theorem ref12_Roles (P:PolX w v0 v1 v2 v3 l g h qs F PS NS) (h6:PS.length≤6) (h4:NS.length≤4):Calls Tryz.prog 126 #[pv v0 v1 v2 v3] w fun e w' => ∃ v,e=.returned v∧w'.ownsRow w.heap.size 28 2 v (rolesX PS NS g).length ((rolesX PS NS g).flatMap Rl.cells)∧Below w.heap.size w w':=by
 have PN:=Lib.hid (fun W (hb:Below w.heap.size w W)=>ref5_NamesX (P.below hb))
 have PR:=Lib.hid (fun W (hb:Below w.heap.size w W)=>ref12_Prins (P.below hb))
 have hpx:=putX_len PS
 have RH:=Lib.hid (fun x W (hb:Below w.heap.size w W)=>ref5_Has v1 g x W (P.at_.rg.below hb))
 have RES:=Lib.hid (show insAllR [] ((allR (putX PS) NS).filter (fun r => !hasR g r))=rolesX PS NS g from rfl)
 obtain ⟨a0,c0,rfl⟩:=P.at_.rs.form
 obtain ⟨a1,c1,rfl⟩:=P.at_.rg.form
 obtain ⟨a2,c2,rfl⟩:=P.at_.rh.form
 obtain ⟨a3,c3,rfl⟩:=P.at_.rq.form
 have HT:=Lib.hid (show OneAt w #[.slice a0 l.length c0,.slice a1 g.length c1,.slice a2 h.length c2,.slice a3 qs.length c3] (w.alloc (.cells #[.slice a0 l.length c0,.slice a1 g.length c1,.slice a2 h.length c2,.slice a3 qs.length c3] 26)) from ⟨Blk.new w _ _,(Below.refl _ _).alloc (Nat.le_refl _) _⟩)
 clear P
 generalize putX PS=PX at *
 generalize rolesX PS NS g=RX at *
 have hp7:PX.length≤7:=by omega
 go_enter Tryz.func126,Tryz.ntmps126
 go_wp2_with fail
 refine (PR.out _ HT.out.low).mono ?_
 rintro e w1 ⟨vp,rfl,ho,hb1⟩
 obtain ⟨ao,co,rfl⟩:=own_form ho
 have HT:=Lib.hid (HT.out.later hb1)
 have HP:=Lib.hid ho
 clear ho hb1 PR
 go_wp2_with fail
 go_loopw [3,12] (fun vo i wr => ∃ (k:Nat) (rs:List Rl),k≤PX.length∧i=.int .i64 k∧Hid (rs=(allR (PX.take k) NS).filter (fun r => !hasR g r))∧Hid (OneAt w #[.slice a0 l.length c0,.slice a1 g.length c1,.slice a2 h.length c2,.slice a3 qs.length c3] wr)∧Hid (wr.ownsRow (w.heap.size+1) 28 2 vo rs.length (rs.flatMap Rl.cells))∧Hid (∃ B,wr.ownsRow B 9 1 (.slice ao PX.length co) PX.length (strs PX))) (fun _ i _=>PX.length - (intOf i).toNat)
 case atStart=>exact ⟨0,[],by omega,rfl,Lib.hid rfl,HT,Lib.hid (World.ownsRow_nil _ _ _ _),Lib.hid ⟨_,HP.out⟩⟩
 case round =>
  clear HT HP
  obtain ⟨k,rs,hk,rfl,HE,HT,HO,HP⟩:=hrel
  obtain ⟨BP,hop⟩:=HP.out
  have HP:=Lib.hid hop
  obtain ⟨oo,oc,rfl⟩:=own_form HO.out
  obtain ⟨cs,fs,zs⟩:=HT.out.a
  have hrl:rs.length≤7 * 4:=by
   rw [HE.out]
   refine Nat.le_trans (List.length_filter_le _ _) ?_
   rw [allR_len];exact Nat.mul_le_mul (by have:=List.length_take_le k PX;omega) h4
  by_cases hlt:k < PX.length
  ·obtain ⟨b1,o1,rfl,p0,hc1,hm1,hb1⟩:=own_text hop hlt rfl
   have HF:=Lib.hid (show (allR (PX.take (k+1)) NS).filter (fun r => !hasR g r)=(allR (PX.take k) NS).filter (fun r => !hasR g r)++(NS.map (fun n=>(⟨PX[k],n⟩:Rl))).filter (fun r => !hasR g r) by rw [allR_snoc hlt,List.filter_append])
   clear hop
   generalize PX[k]=x at *
   go_wp2_with fail
   refine (PN.out _ HT.out.low).mono ?_
   rintro e w2 ⟨vn,rfl,hon,hb2⟩
   obtain ⟨an,cn,rfl⟩:=own_form hon
   have HT2:=Lib.hid (HT.out.later hb2)
   have HO2:=Lib.hid (own_below HO.out hb2)
   have HP2:=Lib.hid (own_below HP.out hb2)
   have HN2:=Lib.hid hon
   clear hon hb2 cs fs zs p0 HT HO HP
   go_wp2_with fail
   go_loopw [3,19] (fun vo i wr2 => ∃ (j:Nat) (ss:List Rl),j≤NS.length∧i=.int .i64 j∧Hid (ss=rs++((NS.take j).map (fun n=>(⟨x,n⟩:Rl))).filter (fun r => !hasR g r))∧Hid (OneAt w #[.slice a0 l.length c0,.slice a1 g.length c1,.slice a2 h.length c2,.slice a3 qs.length c3] wr2)∧Hid (wr2.ownsRow (w.heap.size+1) 28 2 vo ss.length (ss.flatMap Rl.cells))∧Hid (wr2.ownsRow BP 9 1 (.slice (some ⟨b1,o1,none⟩) PX.length co) PX.length (strs PX))∧Hid (wr2.ownsRow wr.heap.size 9 1 (.slice an NS.length cn) NS.length (strs NS))) (fun _ i _=>NS.length - (intOf i).toNat)
   case atStart=>exact ⟨0,rs,by omega,rfl,Lib.hid (by simp),HT2,HO2,HP2,HN2⟩
   case round =>
    clear HT2 HO2 HP2 HN2
    obtain ⟨j,ss,hj,rfl,HE2,HT,HO,HP,HN⟩:=hrel
    obtain ⟨oo,oc,rfl⟩:=own_form HO.out
    obtain ⟨cs,fs,zs⟩:=HT.out.a
    have hsl:ss.length≤rs.length+4:=by
     rw [HE2.out,List.length_append]
     have h1:=List.length_filter_le (fun r => !hasR g r) ((NS.take j).map (fun n=>(⟨x,n⟩:Rl)))
     rw [List.length_map] at h1
     have:=List.length_take_le j NS;omega
    by_cases hlt2:j < NS.length
    ·obtain ⟨b2,o2,rfl,p0,hc2,hm2,hb2⟩:=own_text HN.out hlt2 rfl
     have HF2:=Lib.hid (filter_mapSnoc (f:=fun n=>(⟨x,n⟩:Rl)) (p:=fun r => !hasR g r) hlt2)
     generalize NS[j]=y at *
     have RHx:=Lib.hid (RH.out ⟨x,y⟩)
     generalize hasR g ⟨x,y⟩=t at *
     have HT1:=Lib.hid (HT.out.alloc (.cells #[.string x,.string y] 28))
     have HO1:=Lib.hid (HO.out.alloc (.cells #[.string x,.string y] 28))
     have HP1:=Lib.hid (HP.out.alloc (.cells #[.string x,.string y] 28))
     have HN1:=Lib.hid (HN.out.alloc (.cells #[.string x,.string y] 28))
     have HX1:=Lib.hid (Blk.new wr #[.string x,.string y] 28)
     go_wp2_with fail
     refine (RHx.out _ HT1.out.low).mono ?_
     rintro e w4 ⟨rfl,hb4⟩
     have HT4:=Lib.hid (HT1.out.later hb4)
     have HO4:=Lib.hid (own_below HO1.out hb4)
     have HP4:=Lib.hid (own_below HP1.out hb4)
     have HN4:=Lib.hid (own_below HN1.out hb4)
     have HX4:=Lib.hid (HX1.out.below hb4)
     clear hb4 HT1 HO1 HP1 HN1 HX1 HT HO HP HN cs fs zs p0 RHx
     obtain ⟨cs,fs,zs⟩:=HT4.out.a
     obtain ⟨cx,fx,zx⟩:=HX4.out
     cases t with
     | true =>
      go_wp2_with fail
      exact ⟨⟨j+1,ss,by omega,by go_num,Lib.hid (by rw [HF2.out,HE2.out];simp),HT4,HO4,HP4,HN4⟩,by simp [intOf];omega⟩
     | false =>
      go_wp2_with (at_builtin;refine halt_ ?_)
      unfold Halt_
      refine app_own Tryz.underlying23 rl_info' rfl (by decide) (by decide) rfl _ _ rfl (w.heap.size+1) rfl (HO4.out.alloc _) [.string x,.string y] rfl (heap_new1 _ _) rfl (rlc_one ⟨x,y⟩) ?_ ?_ ?_
      ·omega
      ·have:=HT4.out.a.2.2;simp;omega
      intro a' cap' w5 hown' hgrow
      obtain ⟨q1,q2⟩:=push_at Rl.cells (x:=⟨x,y⟩) HT4.out HO4.out hown' hgrow
      have HP5:=Lib.hid (own_far (HP4.out.alloc _) (HO4.out.alloc _) hgrow (by decide))
      have HN5:=Lib.hid (own_far (HN4.out.alloc _) (HO4.out.alloc _) hgrow (by decide))
      have HO5:=Lib.hid q1
      have HT5:=Lib.hid q2
      clear hown' hgrow q1 q2 cs fs zs cx fx zx
      go_wp2_with fail
      exact ⟨⟨j+1,ss++[⟨x,y⟩],by omega,by go_num,Lib.hid (by rw [HF2.out,HE2.out];simp),HT5,HO5,HP5,HN5⟩,by simp [intOf];omega⟩
    ·have HES:=Lib.hid (show ss=(allR (PX.take (k+1)) NS).filter (fun r => !hasR g r) by rw [HF.out,HE2.out,HE.out,List.take_of_length_le (show NS.length≤j by omega)])
     go_wp2_with fail
     exact ⟨⟨k+1,ss,by omega,by go_num,HES,HT,HO,Lib.hid ⟨_,HP.out⟩⟩,by simp [intOf];omega⟩
  ·have HES:=Lib.hid (show rs=(allR PX NS).filter (fun r => !hasR g r) by rw [HE.out,List.take_of_length_le (show PX.length≤k by omega)])
   have HS:=Lib.hid (Sl.of_own HO.out)
   go_wp2_with fail
   refine (ref5_SortO (.slice oo rs.length oc) rs wr HS.out.a (by omega)).mono ?_
   rintro e w4 ⟨v4,rfl,ho4,hb4⟩
   have HT4:=Lib.hid (HT.out.later hb4)
   rw [HES.out,RES.out] at ho4
   have HR:=Lib.hid (own_mono ho4 HT.out.low.size)
   obtain ⟨a4,c4',rfl⟩:=own_form HR.out
   clear HT HO HP HS ho4 hb4 cs fs zs
   go_wp2
   go_ret
   exact ⟨_,rfl,HR.out,HT4.out.low⟩
set_option maxRecDepth 100000 in
set_option maxHeartbeats 8000000 in
theorem ref12_Maximal (P:PolX w v0 v1 v2 v3 l g h qs F PS NS) (h6:PS.length≤6) (h4:NS.length≤4):Calls Tryz.prog 46 #[pv v0 v1 v2 v3] w fun e w' => ∃ v,e=.returned v∧Sl w' 9 v (maxS l g PS NS).length ((maxS l g PS NS).flatMap St.cells)∧Below w.heap.size w w':=by
 have RO:=Lib.hid (fun W (hb:Below w.heap.size w W)=>ref12_Roles (P.below hb) h6 h4)
 have PR:=Lib.hid (fun W (hb:Below w.heap.size w W)=>ref12_Prins (P.below hb))
 have hpx:=putX_len PS
 have HL:=Lib.hid P.at_.rs
 have hl:=P.hl
 have hrx:(rolesX PS NS g).length≤7 * 4:=Nat.le_trans (rolesX_len PS NS g) (Nat.mul_le_mul (by omega) h4)
 have RES:=Lib.hid (show insAll [] (l++memsX (rolesX PS NS g) (putX PS))=maxS l g PS NS from rfl)
 obtain ⟨a0,c0,rfl⟩:=P.at_.rs.form
 obtain ⟨a1,c1,rfl⟩:=P.at_.rg.form
 obtain ⟨a2,c2,rfl⟩:=P.at_.rh.form
 obtain ⟨a3,c3,rfl⟩:=P.at_.rq.form
 have HT:=Lib.hid (show OneAt w #[.slice a0 l.length c0,.slice a1 g.length c1,.slice a2 h.length c2,.slice a3 qs.length c3] (w.alloc (.cells #[.slice a0 l.length c0,.slice a1 g.length c1,.slice a2 h.length c2,.slice a3 qs.length c3] 26)) from ⟨Blk.new w _ _,(Below.refl _ _).alloc (Nat.le_refl _) _⟩)
 clear P
 generalize putX PS=PX at *
 generalize rolesX PS NS g=RX at *
 have hp7:PX.length≤7:=by omega
 generalize maxS l g PS NS=ms at *
 obtain ⟨wA,hwA⟩:∃ W,W=w.alloc (.cells #[.slice a0 l.length c0,.slice a1 g.length c1,.slice a2 h.length c2,.slice a3 qs.length c3] 26):=⟨_,rfl⟩
 have hwz:wA.heap.size=w.heap.size+1:=by rw [hwA];simp
 have HLA:=Lib.hid (HL.out.below HT.out.low)
 rw [← hwA] at HT HLA
 go_enter Tryz.func46,Tryz.ntmps46
 go_wp2_with (at_builtin;refine halt_ ?_)
 unfold Halt_
 have own0:=(World.ownsRow_made (e:=74) (size:=9) wA #[] 0 (Nat.le_refl _) (Nat.zero_le _) (by simp))
 have HT1:=Lib.hid (HT.out.alloc (.cells #[] 74))
 have HL1:=Lib.hid (HLA.out.below ((Below.refl _ wA).alloc (Nat.le_refl _) (.cells #[] 74)))
 rw [hwz] at own0
 subst hwA
 refine app_row Tryz.underlying22 st_info rfl (by decide) (by decide) rfl _ _ rfl (w.heap.size+1) rfl own0 rfl HL1.out (sts_one _) (by omega) (by simp) ?_
 intro x1 y1 w1 hown1 hg1
 have HT2:=Lib.hid (show OneAt w #[.slice a0 l.length c0,.slice a1 g.length c1,.slice a2 h.length c2,.slice a3 qs.length c3] w1 from ⟨HT1.out.a.grown hg1 (own_gt_ne own0 (Nat.lt_succ_self _)),below_own HT1.out.low own0 hg1 HT1.out.low.size (Nat.le_succ _)⟩)
 have HO1:=Lib.hid (show w1.ownsRow (w.heap.size+1) 74 9 (.slice x1 l.length y1) l.length (l.flatMap St.cells) by simpa using hown1)
 clear hown1 hg1 own0 HT1 HL1 HLA HT
 obtain ⟨cs,fs,zs⟩:=HT2.out.a
 go_wp2_with fail
 refine (RO.out _ HT2.out.low).mono ?_
 rintro e w2 ⟨vr,rfl,hor,hb2⟩
 obtain ⟨ar,cr,rfl⟩:=own_form hor
 have HT:=Lib.hid (HT2.out.later hb2)
 have HO:=Lib.hid (own_below HO1.out hb2)
 have HR:=Lib.hid hor
 clear hor hb2 RO cs fs zs HT2 HO1
 go_wp2_with fail
 go_loopw [3,15] (fun vo i wr => ∃ (k:Nat) (rs:List St),k≤RX.length∧i=.int .i64 k∧Hid (rs=l++memsX (RX.take k) PX)∧Hid (OneAt w #[.slice a0 l.length c0,.slice a1 g.length c1,.slice a2 h.length c2,.slice a3 qs.length c3] wr)∧Hid (wr.ownsRow (w.heap.size+1) 74 9 vo rs.length (rs.flatMap St.cells))∧Hid (wr.ownsRow w1.heap.size 28 2 (.slice ar RX.length cr) RX.length (RX.flatMap Rl.cells))) (fun _ i _=>RX.length - (intOf i).toNat)
 case atStart=>exact ⟨0,l,by omega,rfl,Lib.hid (by simp [memsX]),HT,HO,HR⟩
 case round =>
  clear HT HO HR
  obtain ⟨k,rs,hk,rfl,HE,HT,HO,HR⟩:=hrel
  obtain ⟨oo,oc,rfl⟩:=own_form HO.out
  have hrl:rs.length≤100+28 * 7:=by rw [HE.out,List.length_append,memsX_len];exact Nat.add_le_add hl (Nat.mul_le_mul (by have:=List.length_take_le k RX;omega) hp7)
  by_cases hlt:k < RX.length
  ·obtain ⟨b1,o1,e1,he1,hc1,hm1',hb1,hx1⟩:=(Sl.of_own HR.out).pos (by omega)
   simp only [Value.slice.injEq,true_and] at he1
   obtain ⟨rfl,rfl⟩:=he1
   obtain ⟨p0,p1⟩:=rl_cell hx1 k hlt
   have HF:=Lib.hid (memsX_snoc (A:=PX) hlt)
   clear hx1
   generalize RX[k]=x at *
   obtain ⟨x1,x2⟩:=x
   have HT2:=Lib.hid (HT.out.alloc (.cells #[.string x1,.string x2] 28))
   have HO2:=Lib.hid (HO.out.alloc (.cells #[.string x1,.string x2] 28))
   have HR2:=Lib.hid (HR.out.alloc (.cells #[.string x1,.string x2] 28))
   have HX2:=Lib.hid (show CAt (wr.alloc (.cells #[.string x1,.string x2] 28)) wr.heap.size #[.string x1,.string x2] 28 from heap_new1 _ _)
   obtain ⟨cs,fs,zs⟩:=HT2.out.a
   have hwr:w.heap.size < wr.heap.size:=HT.out.a.2.2
   go_wp2_with fail
   refine (PR.out _ HT2.out.low).mono ?_
   rintro e w4 ⟨vp,rfl,hop,hb4⟩
   obtain ⟨ap,cp,rfl⟩:=own_form hop
   have HT4:=Lib.hid (HT2.out.later hb4)
   have HO4:=Lib.hid (own_below HO2.out hb4)
   have HR4:=Lib.hid (own_below HR2.out hb4)
   have HX4:=Lib.hid (HX2.out.below hb4)
   have HP4:=Lib.hid (own_mono hop (Nat.zero_le _))
   clear hop hb4 cs fs zs p0 p1 HT HO HR HT2 HO2 HR2 HX2
   obtain ⟨gx,hgx⟩:∃ g,g=wr.heap.size:=⟨_,rfl⟩
   rw [← hgx] at HX4 ⊢
   clear hgx
   go_wp2_with fail
   go_loopw [3,22] (fun vo i wr2 => ∃ (j:Nat) (ss:List St),j≤PX.length∧i=.int .i64 j∧Hid (ss=rs++(PX.take j).map (memS ⟨x1,x2⟩))∧Hid (OneAt w #[.slice a0 l.length c0,.slice a1 g.length c1,.slice a2 h.length c2,.slice a3 qs.length c3] wr2)∧Hid (wr2.ownsRow (w.heap.size+1) 74 9 vo ss.length (ss.flatMap St.cells))∧Hid (wr2.ownsRow w1.heap.size 28 2 (.slice (some ⟨b1,o1,none⟩) RX.length cr) RX.length (RX.flatMap Rl.cells))∧Hid (wr2.ownsRow 0 9 1 (.slice ap PX.length cp) PX.length (strs PX))∧Hid (CAt wr2 gx #[.string x1,.string x2] 28)) (fun _ i _=>PX.length - (intOf i).toNat)
   case atStart=>exact ⟨0,rs,by omega,rfl,Lib.hid (by simp),HT4,HO4,HR4,HP4,HX4⟩
   case round =>
    clear HT4 HO4 HR4 HP4 HX4
    obtain ⟨j,ss,hj,rfl,HE2,HT,HO,HR,HP,HX⟩:=hrel
    obtain ⟨oo,oc,rfl⟩:=own_form HO.out
    obtain ⟨cs,fs,zs⟩:=HX.out.blk
    have hsl:ss.length≤rs.length+7:=by rw [HE2.out,List.length_append,List.length_map];have:=List.length_take_le j PX;omega
    by_cases hlt2:j < PX.length
    ·obtain ⟨b2,o2,rfl,q0,hc2,hm2,hb2⟩:=own_text HP.out hlt2 rfl
     have HF2:=Lib.hid (map_snocT (f:=memS ⟨x1,x2⟩) hlt2)
     generalize PX[j]=y at *
     go_wp2_with (at_builtin;refine halt_ ?_)
     unfold Halt_
     refine app_own Tryz.underlying22 st_info rfl (by decide) (by decide) rfl _ _ rfl (w.heap.size+1) rfl (HO.out.alloc _) [.int .i64 1,.string x1,.string x2,.string y,.string emp,.string emp,.string emp,.string emp,.string emp] rfl (heap_new1 _ _) rfl (st1s _ _ _ _ _ _ _ _ _) ?_ ?_ ?_
     ·omega
     ·have:=HT.out.a.2.2;simp;omega
     intro a' cap' w5 hown' hgrow
     obtain ⟨q1,q2⟩:=push_at St.cells (x:=memS ⟨x1,x2⟩ y) HT.out HO.out hown' hgrow
     have HX5:=Lib.hid ((HX.out.alloc _).grown (HO.out.alloc _) hgrow (by decide))
     have HP5:=Lib.hid (own_far (HP.out.alloc _) (HO.out.alloc _) hgrow (by decide))
     have HR5:=Lib.hid (own_far (HR.out.alloc _) (HO.out.alloc _) hgrow (by decide))
     have HO5:=Lib.hid q1
     have HT5:=Lib.hid q2
     clear hown' hgrow q1 q2 cs fs zs q0
     go_wp2_with fail
     exact ⟨⟨j+1,ss++[memS ⟨x1,x2⟩ y],by omega,by go_num,Lib.hid (by rw [HF2.out,HE2.out];simp),HT5,HO5,HR5,HP5,HX5⟩,by simp [intOf];omega⟩
    ·have HES:=Lib.hid (show ss=l++memsX (RX.take (k+1)) PX by rw [HF.out,HE2.out,HE.out,List.take_of_length_le (show PX.length≤j by omega),List.append_assoc])
     go_wp2_with fail
     exact ⟨⟨k+1,ss,by omega,by go_num,HES,HT,HO,HR⟩,by simp [intOf];omega⟩
  ·have HES:=Lib.hid (show rs=l++memsX RX PX by rw [HE.out,List.take_of_length_le (show RX.length≤k by omega)])
   have HS:=Lib.hid (Sl.of_own HO.out)
   go_wp2_with fail
   refine (ref3_Sort (.slice oo rs.length oc) rs wr HS.out.a (by omega)).mono ?_
   rintro e w4 ⟨v4,rfl,hs4,hb4⟩
   rw [HES.out,RES.out] at hs4
   obtain ⟨a4,c4',rfl⟩:=hs4.form
   have HT:=Lib.hid (HT.out.later hb4)
   have HS4:=Lib.hid hs4
   clear hs4 hb4
   go_wp2
   go_ret
   exact ⟨_,rfl,HS4.out,HT.out.low⟩
end
end
section
open Go.RowKit Go.Shelf

section
variable {w:World} {b1 b2:Nat}
end
end
section
open Go.RowKit Go.Shelf

theorem who_ex2 {w w':World} {qs:List Qv} (h:∀ q∈qs,q.ok w) (h':∀ q∈qs,q.okN 40 w'):∃ F,WhoF w qs F∧∀ q∈qs,∀ s∈F q,s.size≤9223372036854775807:=by
 have key:∀ q,∃ ss:List ByteArray,q∈qs→(SlA w 1 q.w ss.length (strs ss)∧ss.length≤40∧∀ s∈ss,s.size≤9223372036854775807):=by
  intro q
  by_cases hq:q∈qs
  ·obtain ⟨_,_,ss,h1,h2⟩:=h q hq
   obtain ⟨_,_,ss',h3,h4,_⟩:=h' q hq
   obtain ⟨a,c,e⟩:=h1.form
   obtain ⟨a',c',e'⟩:=h3.form
   rw [e] at e'
   simp only [Value.slice.injEq] at e'
   exact ⟨ss,fun _=>⟨h1,by rw [e'.2.1];exact h4,h2⟩⟩
  ·exact ⟨[],fun h'=>absurd h' hq⟩
 refine ⟨fun q=>(key q).choose,fun q hq=>⟨((key q).choose_spec hq).1,((key q).choose_spec hq).2.1⟩,fun q hq=>((key q).choose_spec hq).2.2⟩
structure GoodP (l:List St) (g h:List Rl) (qs:List Qv) (F:Qv→List ByteArray):Prop where
 right:∀ s∈l,rightS s=true
 ps:(newB (allPrins l g h qs F)).length≤16
 ns:(newB (allNames l g h qs)).length≤12
theorem RightP.good {l:List St} {g h:List Rl} {qs:List Qv} {F:Qv→List ByteArray} (hr:RightP l g h qs F):GoodP l g h qs F:=by
 obtain ⟨h1,_,_,_,_,_,h2⟩:=hr
 unfold fitsP at h2
 simp only [Bool.and_eq_true,decide_eq_true_iff] at h2
 exact ⟨h1,h2.2.1,h2.2.2⟩
end
section
open Go.RowKit Go.Shelf

theorem RightP.polx {w:World} {v0 v1 v2 v3:Value} {l:List St} {g h:List Rl} {qs:List Qv} {F:Qv→List ByteArray} (hr:RightP l g h qs F) (hp:PolAt w v0 v1 v2 v3 l g h qs) (hT:TB w) (hl:l.length≤30) (hg:g.length≤30) (hh:h.length≤30) (hq:qs.length≤30) (hF:WhoF w qs F) (hs:allLe l 40) :
  PolX w v0 v1 v2 v3 l g h qs F (newB (allPrins l g h qs F)) (newB (allNames l g h qs)) :=
 ⟨hp,by omega,by omega,by omega,by omega,hF,fun x hx=>(hs x hx).mono (by decide),hT,rfl,rfl,by have:=hr.good.ps;omega,by have:=hr.good.ns;omega,hr.1,hr.names.1,hr.names.2⟩
theorem sound_in {l:List St} {A B:List ByteArray} (h:∀ s∈l,InAB A B s) {ps:List Pr} (hs:SoundS l ps):∀ p∈ps,(p.1.o∈A∧p.1.n∈B)∧p.2∈A:=by
 refine hs (fun r x=>(r.o∈A∧r.n∈B)∧x∈A) ⟨fun s hs hk=>⟨(h s hs).r _ (roles_head s),(h s hs).w _ (by unfold whoS;rw [if_pos hk];simp)⟩,fun s hs _ x hx=>⟨(h s hs).r _ (roles_head s),hx.2⟩,fun s hs _ x y _ hy=>⟨(h s hs).r _ (roles_head s),hy.2⟩,fun s hs _ x hx _=>⟨(h s hs).r _ (roles_head s),hx.2⟩⟩
theorem sound_few {l:List St} {A B:List ByteArray} (h:∀ s∈l,InAB A B s):∀ ps:List Pr,ps.Nodup→SoundS l ps→ps.length≤A.length * B.length * A.length:=by
 intro ps hn hs
 have hl:((allR A B).flatMap (fun r=>A.map (fun x=>(r,x)))).length=A.length * B.length * A.length:=by
  rw [← allR_len]
  induction allR A B with
  | nil=>simp
  | cons a r ih=>rw [List.flatMap_cons,List.length_append,ih,List.length_map,List.length_cons,Nat.add_mul,Nat.one_mul,Nat.add_comm]
 rw [← hl]
 refine nodup_le _ _ hn (fun p hp=>?_)
 obtain ⟨h1,h2⟩:=sound_in h hs p hp
 exact List.mem_flatMap.2 ⟨p.1,allR_mem.2 h1,List.mem_map.2 ⟨p.2,h2,rfl⟩⟩
end
section
open Go.RowKit Go.Shelf

section
variable {w W:World} {v0 v1 v2 v3 vq:Value} {l:List St} {g h:List Rl} {qs:List Qv} {q:Qv} {us PS NS:List ByteArray}
def SameM (A B:List ByteArray) (S:List St):Prop:=A.length≤64∧B.length≤1000∧AscB A∧AscB B∧∀ s∈S,(ruleN A B s).2=true
theorem PolX.highM {F:Qv→List ByteArray} (P:PolX W v0 v1 v2 v3 l g h qs F PS NS) (h6:PS.length≤16) (h4:NS.length≤12):SameM (putX PS) NS (maxS l g PS NS):=by
 have hpx:=putX_len PS
 exact ⟨by omega,by omega,putX_asc P.ascP,P.ascN,P.max_ok h6⟩
end
end
section
open Go.RowKit Go.Shelf

end
section
open Go.RowKit Go.Shelf

end
end Go.Proofs.YtilgbodgmkmjjaaGreatDoor
