/- Parts: SemPutW SemLook -/
import Derived.Test.YtilgbodgmkmjjaaGreatDoorPart14
import Derived.Test.YtilgbodgmkmjjaaGreatDoorPart13
namespace Go.Proofs.YtilgbodgmkmjjaaGreatDoor
section
open Go.RowKit Go.Shelf

def takesR (n:Nat) (r:Ru) (p:Nat):Bool:=if p < n then decide (r.k≠1) && (decide (r.a=(p:Int)) || (decide (r.k=4) && decide (r.b=(p:Int)))) else decide (r.k=3) && decide (r.via=((p - n:Nat):Int))
theorem rowL_snoc (n:Nat) (rs:List Ru) (r:Ru) (p:Nat):rowL n (rs++[r]) p=rowL n rs p++(if takesR n r p=true then [r] else []):=by
 unfold rowL takesR
 by_cases hp:p < n
 ·rw [if_pos hp,if_pos hp,if_pos hp]
  unfold byR
  rw [List.filter_append,List.filter_cons,List.filter_nil]
 ·rw [if_neg hp,if_neg hp,if_neg hp]
  unfold viaR
  rw [List.filter_append,List.filter_cons,List.filter_nil]
def MemP (r:Ru) (fs:List (Nat × Nat)):Prop:=r.k=1→(r.h.toNat,r.who.toNat)∈fs
theorem slA_one {w:World} {g:Nat} {a b c d e f:Int} (h:Blk w g #[.int .i64 a,.int .i64 b,.int .i64 c,.int .i64 d,.int .i64 e,.int .i64 f]):SlA w 6 (.slice (some ⟨g,0,none⟩) 1 1) 1 [.int .i64 a,.int .i64 b,.int .i64 c,.int .i64 d,.int .i64 e,.int .i64 f] :=
 Sl.a ⟨rfl,by simp [maxLen],.inr ⟨g,0,1,rfl,Nat.le_refl _,by simp [maxLen],h.2.2,fun j u hu=>by rw [Nat.zero_add,h.1 j];simpa using hu⟩⟩
set_option maxRecDepth 100000 in
set_option maxHeartbeats 16000000 in
theorem mk_put {w:World} {d:MkI} {rs:List Ru} {rv:Nat→Value} {fs:List (Nat × Nat)} {k:Nat} {qv:Value} {st:Nat} (h:MkAt w d rs rv fs k qv st) (r:Ru) (hok:okRu d.pr d.lk r=true) (hst:st≤10000000000) (hrs:rs.length≤100000) (ra:List Ru) (hra:r∈ra) :
  Calls Tryz.prog 232 #[.pointer (some ⟨d.K,0,none⟩),ruv r] w fun e w'=>e=.returned (.tuple #[])∧∃ rv' fs' qv' st',MkAt w' d (rs++[r]) rv' fs' k qv' st'∧Below d.F w w'∧Grow d.lk ra fs fs'∧MemP r fs'∧st'≤st+2:=by
 have p64:=h.ok.p64
 have l64:=h.ok.l64
 have hnn:d.n≤64 * 64:=Nat.mul_le_mul p64 l64
 have hlow:=h.lowF
 obtain ⟨infr,hir,hr0,hr1,hr2⟩:=info_parts ru_info
 have HIR:=Lib.hid hir
 clear hir
 have SN:=Lib.hid (rowL_snoc d.n rs r)
 have hcases:=okRu_cases hok
 have hstw:IntKind.i64.wrap ((st:Int)+1)=(st:Int)+1:=Go.IntWalk.i64_in _ (by omega)
 have hMK:d.M < d.K:=h.ok.o4
 obtain ⟨ck,fk,zk⟩:=h.b.kk
 obtain ⟨cm,fm,zm⟩:=h.b.mm
 have hMC:d.M < w.heap.size:=zm
 have HL:=fun p=>rowL_len d.n rs p
 clear hok
 rcases hcases with ⟨h0,x0,rfl,hh,hx⟩ | ⟨h0,a0,rfl,hh,ha⟩ | ⟨h0,a0,v0,rfl,hh,ha,hv⟩ | ⟨h0,a0,b0,rfl,hh,ha,hb⟩
 ·have hh:h0 < d.n:=hh
  obtain ⟨w3,hw3⟩:∃ V,V=(w.setCell ⟨d.M,3,none⟩ (.int .i64 ((st:Int)+1))).alloc (.cells #[.int .i64 1,.int .i64 h0,.int .i64 x0,.int .i64 0,.int .i64 0,.int .i64 0] 151):=⟨_,rfl⟩
  have HA:=Lib.hid (show MkAt w3 d rs rv fs k qv (st+1) by rw [hw3];exact (h.steps (st+1)).below ((Below.refl _ _).alloc (Nat.le_refl _) _))
  have HB:=Lib.hid (show Below d.F w w3 by rw [hw3];exact (kp_low (Kp.set (X:=mkX d qv) (w:=w) (o:=3) (v:=.int .i64 ((st:Int)+1)) (.inl rfl)) hlow (mkX_ge h)).alloc (by simpa using hlow) _)
  have HR3:=Lib.hid (show Blk w3 w.heap.size #[.int .i64 1,.int .i64 h0,.int .i64 x0,.int .i64 0,.int .i64 0,.int .i64 0] by rw [hw3];have:=Blk.new (w.setCell ⟨d.M,3,none⟩ (.int .i64 ((st:Int)+1))) #[.int .i64 1,.int .i64 h0,.int .i64 x0,.int .i64 0,.int .i64 0,.int .i64 0] 151;simpa using this)
  have hbC:d.C≤w.heap.size:=h.b.le
  have hbR:∀ p,p < d.n+d.lk→∀ g,(rv p).ownBlock=some g→g≠w.heap.size:=fun p hp g hg e=>by have:=((h.b.own p hp).lt g hg).2;omega
  have hbQ:∀ g,qv.ownBlock=some g→g≠w.heap.size:=fun g hg e=>by have:=(h.qge g hg).2;omega
  clear h
  have AD:=Lib.hid (mk_add HA.out h0 x0 hh hx (by omega))
  have HGA:=Lib.hid (Grow.add (lk:=d.lk) (rs:=ra) (fs:=fs) (r:=h0) (c:=x0) (fun E hE _=>hE.mem _ hra rfl))
  go_enter Tryz.func232,Tryz.ntmps232
  go_wp2_with fail
  rw [← hw3]
  clear hw3 ck fk zk cm fm zm
  refine AD.out.mono ?_
  rintro e w4 ⟨rfl,qv2,hmm⟩
  have HM4:=Lib.hid hmm
  clear hmm AD
  go_wp2
  go_end0
  refine ⟨rfl,rv,_,qv2,st+1+1,?_,HB.out.trans (kp_low HM4.out.kp HA.out.lowF (mkX_ge HA.out)),HGA.out,fun _=>addF_mem _ _ _,by omega⟩
  exact HM4.out.a.r.at (fun p hp=>by rw [SN.out p];unfold takesR;simp)
 ·have hh:h0 < d.n:=hh
  have ha:a0 < d.n:=ha
  obtain ⟨w3,hw3⟩:∃ V,V=(w.setCell ⟨d.M,3,none⟩ (.int .i64 ((st:Int)+1))).alloc (.cells #[.int .i64 2,.int .i64 h0,.int .i64 0,.int .i64 a0,.int .i64 0,.int .i64 0] 151):=⟨_,rfl⟩
  have HA:=Lib.hid (show MkAt w3 d rs rv fs k qv (st+1) by rw [hw3];exact (h.steps (st+1)).below ((Below.refl _ _).alloc (Nat.le_refl _) _))
  have HB:=Lib.hid (show Below d.F w w3 by rw [hw3];exact (kp_low (Kp.set (X:=mkX d qv) (w:=w) (o:=3) (v:=.int .i64 ((st:Int)+1)) (.inl rfl)) hlow (mkX_ge h)).alloc (by simpa using hlow) _)
  have HR3:=Lib.hid (show Blk w3 w.heap.size #[.int .i64 2,.int .i64 h0,.int .i64 0,.int .i64 a0,.int .i64 0,.int .i64 0] by rw [hw3];have:=Blk.new (w.setCell ⟨d.M,3,none⟩ (.int .i64 ((st:Int)+1))) #[.int .i64 2,.int .i64 h0,.int .i64 0,.int .i64 a0,.int .i64 0,.int .i64 0] 151;simpa using this)
  have hbC:d.C≤w.heap.size:=h.b.le
  have hbR:∀ p,p < d.n+d.lk→∀ g,(rv p).ownBlock=some g→g≠w.heap.size:=fun p hp g hg e=>by have:=((h.b.own p hp).lt g hg).2;omega
  have hbQ:∀ g,qv.ownBlock=some g→g≠w.heap.size:=fun g hg e=>by have:=(h.qge g hg).2;omega
  clear h
  have HR0:=Lib.hid HA.out.r
  have HB0:=HR3
  have HW0:=HB
  have hbR0:=hbR
  clear HA HR3 HB hbR
  go_enter Tryz.func232,Tryz.ntmps232
  go_wp2_with fail
  rw [← hw3]
  clear hw3 ck fk zk cm fm zm
  have hL0:(rowL d.n rs (a0)).length≤100001:=Nat.le_succ_of_le (Nat.le_trans (HL _) hrs)
  have hown0:=HR0.out.own (a0) (by omega)
  obtain ⟨ro0,rc0,hrv0⟩:=own_form hown0
  obtain ⟨L0,hLe0⟩:∃ L,L=(rowL d.n rs (a0)).length:=⟨_,rfl⟩
  rw [← hLe0] at hrv0 hL0
  have HLe0:=Lib.hid hLe0
  have HRV0:=Lib.hid hrv0
  rw [hrv0,← hLe0] at hown0
  have HOW0:=Lib.hid hown0
  have HRa:=HR0.out.below (below_drew (Below.refl _ _))
  have hcell0:(w3.drew).cell? ⟨d.BY,a0,none⟩=some (.slice ro0 L0 rc0):=by have:=(HRa.by_).1 (a0);rw [arrOf_get,if_pos ha,hrv0] at this;exact this
  have HRd:=Lib.hid HRa
  have HBd:=Lib.hid (HB0.out.below (below_drew (Below.refl _ _)))
  have HWd:=Lib.hid (HW0.out.trans ((below_drew (Below.refl _ _)).mono (HR0.out.f.ff.2.2 |> Nat.le_of_lt)))
  have HOd:=Lib.hid (own_below HOW0.out (below_drew (Below.refl w3.heap.size w3)))
  clear HRa hown0 HOW0 hLe0
  refine wp_region_last (S:=(fun W=>(∀ o,W.cell? ⟨d.K,o,none⟩=(#[.pointer (some ⟨d.M,0,none⟩),.slice (some ⟨d.BY,0,none⟩) d.n d.n,.slice (some ⟨d.VIA,0,none⟩) d.lk d.lk,qv]:Array Value)[o]?)∧(∀ o,W.cell? ⟨w.heap.size,o,none⟩=(#[.int .i64 2,.int .i64 h0,.int .i64 0,.int .i64 a0,.int .i64 0,.int .i64 0]:Array Value)[o]?)∧W.cell? ⟨d.BY,a0,none⟩=some (.slice ro0 L0 rc0))) 18 (by kernel_rfl) ⟨HRd.out.kk.1,HBd.out.1,hcell0⟩ (fun hHeld=>?_)
  obtain ⟨wd0,hwd⟩:∃ W,W=w3.drew:=⟨_,rfl⟩
  rw [← hwd] at HRd HBd HWd HOd hHeld hcell0 ⊢
  clear hwd hrv0 HR0 HB0 HW0
  (refine lyes 0 ?_);(refine lyes 1 ?_);(refine lyes 2 ?_);(refine lyes 3 ?_);(refine lyes 4 ?_);(refine lyes 5 ?_);(refine lyes 6 ?_);(refine lyes 7 ?_);(refine lyes 8 ?_);(refine lyes 9 ?_);(refine lyes 10 ?_);(refine lyes 11 ?_);(refine lyes 12 ?_);(refine lyes 13 ?_);(refine lyes 14 ?_);(try simp only [Act.put,List.setIfInBounds_toArray,List.set])
  (refine last_call 15 rfl (by kernel_rfl) (fun K hK=>?_);go_simp)
  have hba:Below wd0.heap.size wd0 (wd0.alloc (.cells #[.int .i64 2,.int .i64 h0,.int .i64 0,.int .i64 a0,.int .i64 0,.int .i64 0] 151)):=(Below.refl _ _).alloc (Nat.le_refl _) _
  have hne:=Blk.new wd0 #[.int .i64 2,.int .i64 h0,.int .i64 0,.int .i64 a0,.int .i64 0,.int .i64 0] 151
  have hce:=(hba.cell (p:=⟨d.BY,a0,none⟩) (World.block_lt_of_cell? wd0 _ hcell0)).trans hcell0
  have HRe:=Lib.hid (HRd.out.below hba)
  have HBe:=Lib.hid (HBd.out.below hba)
  have HWe:=Lib.hid (HWd.out.trans (hba.mono (Nat.le_of_lt HRd.out.f.ff.2.2)))
  have HOe:=own_below HOd.out hba
  (refine hK.out _ _ ⟨HRe.out.kk.1,HBe.out.1,hce⟩ (fun hHeld=>?_);clear hK K;(try simp only [Act.put,List.setIfInBounds_toArray,List.set]))
  refine last_call 16 rfl (by kernel_rfl) (fun K hK=>?_)
  refine step_rowE rfl _ _ 162 rfl d.C 151 infr _ 6 48 Tryz.underlying162 HIR.out hr0 hr1 hr2 (Nat.le_of_ble_eq_true rfl) rfl (Nat.le_of_ble_eq_true rfl) _ L0 _ rfl HOe _ 1 _ rfl (slA_one hne) (ru1 _ _ _ _ _ _) (by omega) HRe.out.le ?_
  intro s0 c0 w5 ho5 hg5 hn5
  have hk5:Kp (fun b=>some b=(Value.slice ro0 L0 rc0).ownBlock) (wd0.alloc (.cells #[.int .i64 2,.int .i64 h0,.int .i64 0,.int .i64 a0,.int .i64 0,.int .i64 0] 151)) w5:=Kp.of_grown hg5 (fun b hb=>hb)
  have hgX:∀ b,b < d.C→¬ some b=(Value.slice ro0 L0 rc0).ownBlock:=fun b hb e=>by have:=(HOe.lt b e.symm).1;omega
  have hK5:=hk5.blk HRe.out.kk (hgX _ (by have:=HRe.out.ok.o5;have:=HRe.out.ok.o8;omega))
  have hB5:=hk5.blk HBe.out (fun e=>hbR0 (a0) (by omega) _ (by rw [HRV0.out];exact e.symm) rfl)
  have hc5:=(World.cell?_of_block (a:=⟨d.BY,a0,none⟩) (hk5.block _ (World.block_lt_of_cell? _ _ hce) (hgX _ HRe.out.ok.o8))).trans hce
  (refine hK.out _ _ ⟨hK5.1,hB5.1,hc5⟩ (fun hHeld=>?_);clear hK K;(try simp only [Act.put,List.setIfInBounds_toArray,List.set]))
  (refine lyes 17 ?_);(try simp only [Act.put,List.setIfInBounds_toArray,List.set])
  have hf5:w5.frozen? ⟨d.BY,a0,none⟩=false:=((hk5.blk HRe.out.by_ (hgX _ HRe.out.ok.o8)).2.1 _)
  have HP:=Lib.hid (HRe.out.put (p:=a0) (by omega) (r:=⟨2,h0,0,a0,0,0⟩) (v':=.slice s0 (L0+1) c0) (w1:=w5) (by rw [List.length_append,List.flatMap_append,← HLe0.out];exact ho5) (by rw [HRV0.out];exact hg5) (by rw [HRV0.out];exact hn5))
  have HPB:=Lib.hid (Kp.blk (X:=fun b=>b=d.BY) (Kp.set (b:=d.BY) (o:=a0) (v:=.slice s0 (L0+1) c0) rfl) hB5 (by have:=HRe.out.ok.o8;have:=HRe.out.ok.o9;omega))
  clear hba hne hce hk5 hgX hK5 hB5 HRd HBd HOd HOe ho5 hg5
  (refine last_end 18 rfl (by kernel_rfl) (by kernel_rfl) (fun K hK=>?_);go_simp)
  clear hc5 hf5
  refine hK.out _ _ ?_
  clear hK K
  have hst9:=HP.out
  rw [show (if a0 < d.n then (⟨d.BY,a0,none⟩:Addr) else ⟨d.VIA,a0 - d.n,none⟩)=⟨d.BY,a0,none⟩ from if_pos ha] at hst9
  obtain ⟨w1,hw1⟩:∃ V,V=w5.setCell ⟨d.BY,a0,none⟩ (.slice s0 (L0+1) c0):=⟨_,rfl⟩
  rw [← hw1] at hst9 HPB ⊢
  clear hw1
  have HR1:=Lib.hid hst9.1
  have HW1:=Lib.hid (HWe.out.trans hst9.2)
  have HB1:=HPB
  have hnew:Value.ownBlock (.slice s0 (L0+1) c0)≠some w.heap.size:=fun e=>hn5 w.heap.size HBe.out.2.2 (fun e2=>hbR0 (a0) (by omega) _ (by rw [HRV0.out];exact e2.symm) rfl) e.symm
  have hbR1:∀ q,q < d.n+d.lk→∀ g,(rowPut (rv) (a0) (.slice s0 (L0+1) c0) q).ownBlock=some g→g≠w.heap.size:=fun q hq g hg=>by
   unfold rowPut at hg
   by_cases e:q=a0
   ·rw [if_pos e] at hg
    intro eg
    exact hnew (eg ▸ hg)
   ·rw [if_neg e] at hg;exact hbR0 q hq g hg
  clear HP HPB HWe HRe HBe hn5 hst9 hnew
  go_wp2
  go_end0
  refine ⟨rfl,_,fs,qv,st+1,HR1.out.at (fun p hp=>?_),HW1.out,Grow.refl _ _ _,(fun e=>by simp at e),by omega⟩
  rw [SN.out p]
  unfold takesR
  by_cases e:p=a0
  ·subst e;rw [if_pos rfl,if_pos ha];simp
  ·rw [if_neg e]
   by_cases hpn:p < d.n
   ·rw [if_pos hpn];simp;omega
   ·rw [if_neg hpn];simp
 ·have hh:h0 < d.n:=hh
  have ha:a0 < d.n:=ha
  obtain ⟨w3,hw3⟩:∃ V,V=(w.setCell ⟨d.M,3,none⟩ (.int .i64 ((st:Int)+1))).alloc (.cells #[.int .i64 3,.int .i64 h0,.int .i64 0,.int .i64 a0,.int .i64 0,.int .i64 v0] 151):=⟨_,rfl⟩
  have HA:=Lib.hid (show MkAt w3 d rs rv fs k qv (st+1) by rw [hw3];exact (h.steps (st+1)).below ((Below.refl _ _).alloc (Nat.le_refl _) _))
  have HB:=Lib.hid (show Below d.F w w3 by rw [hw3];exact (kp_low (Kp.set (X:=mkX d qv) (w:=w) (o:=3) (v:=.int .i64 ((st:Int)+1)) (.inl rfl)) hlow (mkX_ge h)).alloc (by simpa using hlow) _)
  have HR3:=Lib.hid (show Blk w3 w.heap.size #[.int .i64 3,.int .i64 h0,.int .i64 0,.int .i64 a0,.int .i64 0,.int .i64 v0] by rw [hw3];have:=Blk.new (w.setCell ⟨d.M,3,none⟩ (.int .i64 ((st:Int)+1))) #[.int .i64 3,.int .i64 h0,.int .i64 0,.int .i64 a0,.int .i64 0,.int .i64 v0] 151;simpa using this)
  have hbC:d.C≤w.heap.size:=h.b.le
  have hbR:∀ p,p < d.n+d.lk→∀ g,(rv p).ownBlock=some g→g≠w.heap.size:=fun p hp g hg e=>by have:=((h.b.own p hp).lt g hg).2;omega
  have hbQ:∀ g,qv.ownBlock=some g→g≠w.heap.size:=fun g hg e=>by have:=(h.qge g hg).2;omega
  clear h
  have HR0:=Lib.hid HA.out.r
  have HB0:=HR3
  have HW0:=HB
  have hbR0:=hbR
  clear HA HR3 HB hbR
  go_enter Tryz.func232,Tryz.ntmps232
  go_wp2_with fail
  rw [← hw3]
  clear hw3 ck fk zk cm fm zm
  have hL0:(rowL d.n rs (d.n+v0)).length≤100001:=Nat.le_succ_of_le (Nat.le_trans (HL _) hrs)
  have hown0:=HR0.out.own (d.n+v0) (by omega)
  obtain ⟨ro0,rc0,hrv0⟩:=own_form hown0
  obtain ⟨L0,hLe0⟩:∃ L,L=(rowL d.n rs (d.n+v0)).length:=⟨_,rfl⟩
  rw [← hLe0] at hrv0 hL0
  have HLe0:=Lib.hid hLe0
  have HRV0:=Lib.hid hrv0
  rw [hrv0,← hLe0] at hown0
  have HOW0:=Lib.hid hown0
  have HRa:=HR0.out.below (below_drew (Below.refl _ _))
  have hcell0:(w3.drew).cell? ⟨d.VIA,v0,none⟩=some (.slice ro0 L0 rc0):=by have:=(HRa.via).1 (v0);rw [arrOf_get,if_pos hv,hrv0] at this;exact this
  have HRd:=Lib.hid HRa
  have HBd:=Lib.hid (HB0.out.below (below_drew (Below.refl _ _)))
  have HWd:=Lib.hid (HW0.out.trans ((below_drew (Below.refl _ _)).mono (HR0.out.f.ff.2.2 |> Nat.le_of_lt)))
  have HOd:=Lib.hid (own_below HOW0.out (below_drew (Below.refl w3.heap.size w3)))
  clear HRa hown0 HOW0 hLe0
  refine wp_region_last (S:=(fun W=>(∀ o,W.cell? ⟨d.K,o,none⟩=(#[.pointer (some ⟨d.M,0,none⟩),.slice (some ⟨d.BY,0,none⟩) d.n d.n,.slice (some ⟨d.VIA,0,none⟩) d.lk d.lk,qv]:Array Value)[o]?)∧(∀ o,W.cell? ⟨w.heap.size,o,none⟩=(#[.int .i64 3,.int .i64 h0,.int .i64 0,.int .i64 a0,.int .i64 0,.int .i64 v0]:Array Value)[o]?)∧W.cell? ⟨d.VIA,v0,none⟩=some (.slice ro0 L0 rc0))) 18 (by kernel_rfl) ⟨HRd.out.kk.1,HBd.out.1,hcell0⟩ (fun hHeld=>?_)
  obtain ⟨wd0,hwd⟩:∃ W,W=w3.drew:=⟨_,rfl⟩
  rw [← hwd] at HRd HBd HWd HOd hHeld hcell0 ⊢
  clear hwd hrv0 HR0 HB0 HW0
  (refine lyes 0 ?_);(refine lyes 1 ?_);(refine lyes 2 ?_);(refine lyes 3 ?_);(refine lyes 4 ?_);(refine lyes 5 ?_);(refine lyes 6 ?_);(refine lyes 7 ?_);(refine lyes 8 ?_);(refine lyes 9 ?_);(refine lyes 10 ?_);(refine lyes 11 ?_);(refine lyes 12 ?_);(refine lyes 13 ?_);(refine lyes 14 ?_);(try simp only [Act.put,List.setIfInBounds_toArray,List.set])
  (refine last_call 15 rfl (by kernel_rfl) (fun K hK=>?_);go_simp)
  have hba:Below wd0.heap.size wd0 (wd0.alloc (.cells #[.int .i64 3,.int .i64 h0,.int .i64 0,.int .i64 a0,.int .i64 0,.int .i64 v0] 151)):=(Below.refl _ _).alloc (Nat.le_refl _) _
  have hne:=Blk.new wd0 #[.int .i64 3,.int .i64 h0,.int .i64 0,.int .i64 a0,.int .i64 0,.int .i64 v0] 151
  have hce:=(hba.cell (p:=⟨d.VIA,v0,none⟩) (World.block_lt_of_cell? wd0 _ hcell0)).trans hcell0
  have HRe:=Lib.hid (HRd.out.below hba)
  have HBe:=Lib.hid (HBd.out.below hba)
  have HWe:=Lib.hid (HWd.out.trans (hba.mono (Nat.le_of_lt HRd.out.f.ff.2.2)))
  have HOe:=own_below HOd.out hba
  (refine hK.out _ _ ⟨HRe.out.kk.1,HBe.out.1,hce⟩ (fun hHeld=>?_);clear hK K;(try simp only [Act.put,List.setIfInBounds_toArray,List.set]))
  refine last_call 16 rfl (by kernel_rfl) (fun K hK=>?_)
  refine step_rowE rfl _ _ 162 rfl d.C 151 infr _ 6 48 Tryz.underlying162 HIR.out hr0 hr1 hr2 (Nat.le_of_ble_eq_true rfl) rfl (Nat.le_of_ble_eq_true rfl) _ L0 _ rfl HOe _ 1 _ rfl (slA_one hne) (ru1 _ _ _ _ _ _) (by omega) HRe.out.le ?_
  intro s0 c0 w5 ho5 hg5 hn5
  have hk5:Kp (fun b=>some b=(Value.slice ro0 L0 rc0).ownBlock) (wd0.alloc (.cells #[.int .i64 3,.int .i64 h0,.int .i64 0,.int .i64 a0,.int .i64 0,.int .i64 v0] 151)) w5:=Kp.of_grown hg5 (fun b hb=>hb)
  have hgX:∀ b,b < d.C→¬ some b=(Value.slice ro0 L0 rc0).ownBlock:=fun b hb e=>by have:=(HOe.lt b e.symm).1;omega
  have hK5:=hk5.blk HRe.out.kk (hgX _ (by have:=HRe.out.ok.o5;have:=HRe.out.ok.o8;omega))
  have hB5:=hk5.blk HBe.out (fun e=>hbR0 (d.n+v0) (by omega) _ (by rw [HRV0.out];exact e.symm) rfl)
  have hc5:=(World.cell?_of_block (a:=⟨d.VIA,v0,none⟩) (hk5.block _ (World.block_lt_of_cell? _ _ hce) (hgX _ HRe.out.ok.o9))).trans hce
  (refine hK.out _ _ ⟨hK5.1,hB5.1,hc5⟩ (fun hHeld=>?_);clear hK K;(try simp only [Act.put,List.setIfInBounds_toArray,List.set]))
  (refine lyes 17 ?_);(try simp only [Act.put,List.setIfInBounds_toArray,List.set])
  have hf5:w5.frozen? ⟨d.VIA,v0,none⟩=false:=((hk5.blk HRe.out.via (hgX _ HRe.out.ok.o9)).2.1 _)
  have HP:=Lib.hid (HRe.out.put (p:=d.n+v0) (by omega) (r:=⟨3,h0,0,a0,0,v0⟩) (v':=.slice s0 (L0+1) c0) (w1:=w5) (by rw [List.length_append,List.flatMap_append,← HLe0.out];exact ho5) (by rw [HRV0.out];exact hg5) (by rw [HRV0.out];exact hn5))
  have HPB:=Lib.hid (Kp.blk (X:=fun b=>b=d.VIA) (Kp.set (b:=d.VIA) (o:=v0) (v:=.slice s0 (L0+1) c0) rfl) hB5 (by have:=HRe.out.ok.o8;have:=HRe.out.ok.o9;omega))
  clear hba hne hce hk5 hgX hK5 hB5 HRd HBd HOd HOe ho5 hg5
  (refine last_end 18 rfl (by kernel_rfl) (by kernel_rfl) (fun K hK=>?_);go_simp)
  clear hc5 hf5
  refine hK.out _ _ ?_
  clear hK K
  have hst9:=HP.out
  rw [show (if d.n+v0 < d.n then (⟨d.BY,d.n+v0,none⟩:Addr) else ⟨d.VIA,d.n+v0 - d.n,none⟩)=⟨d.VIA,v0,none⟩ from (if_neg (by omega)).trans (by rw [Nat.add_sub_cancel_left])] at hst9
  obtain ⟨w1,hw1⟩:∃ V,V=w5.setCell ⟨d.VIA,v0,none⟩ (.slice s0 (L0+1) c0):=⟨_,rfl⟩
  rw [← hw1] at hst9 HPB ⊢
  clear hw1
  have HR1:=Lib.hid hst9.1
  have HW1:=Lib.hid (HWe.out.trans hst9.2)
  have HB1:=HPB
  have hnew:Value.ownBlock (.slice s0 (L0+1) c0)≠some w.heap.size:=fun e=>hn5 w.heap.size HBe.out.2.2 (fun e2=>hbR0 (d.n+v0) (by omega) _ (by rw [HRV0.out];exact e2.symm) rfl) e.symm
  have hbR1:∀ q,q < d.n+d.lk→∀ g,(rowPut (rv) (d.n+v0) (.slice s0 (L0+1) c0) q).ownBlock=some g→g≠w.heap.size:=fun q hq g hg=>by
   unfold rowPut at hg
   by_cases e:q=d.n+v0
   ·rw [if_pos e] at hg
    intro eg
    exact hnew (eg ▸ hg)
   ·rw [if_neg e] at hg;exact hbR0 q hq g hg
  clear HP HPB HWe HRe HBe hn5 hst9 hnew
  go_wp2_with fail
  have hL1:((fun q=>if q=d.n+v0 then rowL d.n rs (d.n+v0)++[⟨3,h0,0,a0,0,v0⟩] else rowL d.n rs q) (a0)).length≤100001:=by dsimp only;rw [if_neg (show ¬ a0=d.n+v0 by omega)];exact Nat.le_succ_of_le (Nat.le_trans (HL _) hrs)
  have hown1:=HR1.out.own (a0) (by omega)
  obtain ⟨ro1,rc1,hrv1⟩:=own_form hown1
  obtain ⟨L1,hLe1⟩:∃ L,L=((fun q=>if q=d.n+v0 then rowL d.n rs (d.n+v0)++[⟨3,h0,0,a0,0,v0⟩] else rowL d.n rs q) (a0)).length:=⟨_,rfl⟩
  rw [← hLe1] at hrv1 hL1
  have HLe1:=Lib.hid hLe1
  have HRV1:=Lib.hid hrv1
  rw [hrv1,← hLe1] at hown1
  have HOW1:=Lib.hid hown1
  have HRa:=HR1.out.below (below_drew (Below.refl _ _))
  have hcell1:(w1.drew).cell? ⟨d.BY,a0,none⟩=some (.slice ro1 L1 rc1):=by have:=(HRa.by_).1 (a0);rw [arrOf_get,if_pos ha,hrv1] at this;exact this
  have HRd:=Lib.hid HRa
  have HBd:=Lib.hid (HB1.out.below (below_drew (Below.refl _ _)))
  have HWd:=Lib.hid (HW1.out.trans ((below_drew (Below.refl _ _)).mono (HR1.out.f.ff.2.2 |> Nat.le_of_lt)))
  have HOd:=Lib.hid (own_below HOW1.out (below_drew (Below.refl w1.heap.size w1)))
  clear HRa hown1 HOW1 hLe1
  refine wp_region_last (S:=(fun W=>(∀ o,W.cell? ⟨d.K,o,none⟩=(#[.pointer (some ⟨d.M,0,none⟩),.slice (some ⟨d.BY,0,none⟩) d.n d.n,.slice (some ⟨d.VIA,0,none⟩) d.lk d.lk,qv]:Array Value)[o]?)∧(∀ o,W.cell? ⟨w.heap.size,o,none⟩=(#[.int .i64 3,.int .i64 h0,.int .i64 0,.int .i64 a0,.int .i64 0,.int .i64 v0]:Array Value)[o]?)∧W.cell? ⟨d.BY,a0,none⟩=some (.slice ro1 L1 rc1))) 18 (by kernel_rfl) ⟨HRd.out.kk.1,HBd.out.1,hcell1⟩ (fun hHeld=>?_)
  obtain ⟨wd1,hwd⟩:∃ W,W=w1.drew:=⟨_,rfl⟩
  rw [← hwd] at HRd HBd HWd HOd hHeld hcell1 ⊢
  clear hwd hrv1 HR1 HB1 HW1
  (refine lyes 0 ?_);(refine lyes 1 ?_);(refine lyes 2 ?_);(refine lyes 3 ?_);(refine lyes 4 ?_);(refine lyes 5 ?_);(refine lyes 6 ?_);(refine lyes 7 ?_);(refine lyes 8 ?_);(refine lyes 9 ?_);(refine lyes 10 ?_);(refine lyes 11 ?_);(refine lyes 12 ?_);(refine lyes 13 ?_);(refine lyes 14 ?_);(try simp only [Act.put,List.setIfInBounds_toArray,List.set])
  (refine last_call 15 rfl (by kernel_rfl) (fun K hK=>?_);go_simp)
  have hba:Below wd1.heap.size wd1 (wd1.alloc (.cells #[.int .i64 3,.int .i64 h0,.int .i64 0,.int .i64 a0,.int .i64 0,.int .i64 v0] 151)):=(Below.refl _ _).alloc (Nat.le_refl _) _
  have hne:=Blk.new wd1 #[.int .i64 3,.int .i64 h0,.int .i64 0,.int .i64 a0,.int .i64 0,.int .i64 v0] 151
  have hce:=(hba.cell (p:=⟨d.BY,a0,none⟩) (World.block_lt_of_cell? wd1 _ hcell1)).trans hcell1
  have HRe:=Lib.hid (HRd.out.below hba)
  have HBe:=Lib.hid (HBd.out.below hba)
  have HWe:=Lib.hid (HWd.out.trans (hba.mono (Nat.le_of_lt HRd.out.f.ff.2.2)))
  have HOe:=own_below HOd.out hba
  (refine hK.out _ _ ⟨HRe.out.kk.1,HBe.out.1,hce⟩ (fun hHeld=>?_);clear hK K;(try simp only [Act.put,List.setIfInBounds_toArray,List.set]))
  refine last_call 16 rfl (by kernel_rfl) (fun K hK=>?_)
  refine step_rowE rfl _ _ 162 rfl d.C 151 infr _ 6 48 Tryz.underlying162 HIR.out hr0 hr1 hr2 (Nat.le_of_ble_eq_true rfl) rfl (Nat.le_of_ble_eq_true rfl) _ L1 _ rfl HOe _ 1 _ rfl (slA_one hne) (ru1 _ _ _ _ _ _) (by omega) HRe.out.le ?_
  intro s1 c1 w5 ho5 hg5 hn5
  have hk5:Kp (fun b=>some b=(Value.slice ro1 L1 rc1).ownBlock) (wd1.alloc (.cells #[.int .i64 3,.int .i64 h0,.int .i64 0,.int .i64 a0,.int .i64 0,.int .i64 v0] 151)) w5:=Kp.of_grown hg5 (fun b hb=>hb)
  have hgX:∀ b,b < d.C→¬ some b=(Value.slice ro1 L1 rc1).ownBlock:=fun b hb e=>by have:=(HOe.lt b e.symm).1;omega
  have hK5:=hk5.blk HRe.out.kk (hgX _ (by have:=HRe.out.ok.o5;have:=HRe.out.ok.o8;omega))
  have hB5:=hk5.blk HBe.out (fun e=>hbR1 (a0) (by omega) _ (by rw [HRV1.out];exact e.symm) rfl)
  have hc5:=(World.cell?_of_block (a:=⟨d.BY,a0,none⟩) (hk5.block _ (World.block_lt_of_cell? _ _ hce) (hgX _ HRe.out.ok.o8))).trans hce
  (refine hK.out _ _ ⟨hK5.1,hB5.1,hc5⟩ (fun hHeld=>?_);clear hK K;(try simp only [Act.put,List.setIfInBounds_toArray,List.set]))
  (refine lyes 17 ?_);(try simp only [Act.put,List.setIfInBounds_toArray,List.set])
  have hf5:w5.frozen? ⟨d.BY,a0,none⟩=false:=((hk5.blk HRe.out.by_ (hgX _ HRe.out.ok.o8)).2.1 _)
  have HP:=Lib.hid (HRe.out.put (p:=a0) (by omega) (r:=⟨3,h0,0,a0,0,v0⟩) (v':=.slice s1 (L1+1) c1) (w1:=w5) (by rw [List.length_append,List.flatMap_append,← HLe1.out];exact ho5) (by rw [HRV1.out];exact hg5) (by rw [HRV1.out];exact hn5))
  have HPB:=Lib.hid (Kp.blk (X:=fun b=>b=d.BY) (Kp.set (b:=d.BY) (o:=a0) (v:=.slice s1 (L1+1) c1) rfl) hB5 (by have:=HRe.out.ok.o8;have:=HRe.out.ok.o9;omega))
  clear hba hne hce hk5 hgX hK5 hB5 HRd HBd HOd HOe ho5 hg5
  (refine last_end 18 rfl (by kernel_rfl) (by kernel_rfl) (fun K hK=>?_);go_simp)
  clear hc5 hf5
  refine hK.out _ _ ?_
  clear hK K
  have hst9:=HP.out
  rw [show (if a0 < d.n then (⟨d.BY,a0,none⟩:Addr) else ⟨d.VIA,a0 - d.n,none⟩)=⟨d.BY,a0,none⟩ from if_pos ha] at hst9
  obtain ⟨w2,hw2⟩:∃ V,V=w5.setCell ⟨d.BY,a0,none⟩ (.slice s1 (L1+1) c1):=⟨_,rfl⟩
  rw [← hw2] at hst9 HPB ⊢
  clear hw2
  have HR2:=Lib.hid hst9.1
  have HW2:=Lib.hid (HWe.out.trans hst9.2)
  have HB2:=HPB
  have hnew:Value.ownBlock (.slice s1 (L1+1) c1)≠some w.heap.size:=fun e=>hn5 w.heap.size HBe.out.2.2 (fun e2=>hbR1 (a0) (by omega) _ (by rw [HRV1.out];exact e2.symm) rfl) e.symm
  have hbR2:∀ q,q < d.n+d.lk→∀ g,(rowPut (rowPut rv (d.n+v0) (.slice s0 (L0+1) c0)) (a0) (.slice s1 (L1+1) c1) q).ownBlock=some g→g≠w.heap.size:=fun q hq g hg=>by
   unfold rowPut at hg
   by_cases e:q=a0
   ·rw [if_pos e] at hg
    intro eg
    exact hnew (eg ▸ hg)
   ·rw [if_neg e] at hg;exact hbR1 q hq g hg
  clear HP HPB HWe HRe HBe hn5 hst9 hnew
  go_wp2
  go_end0
  refine ⟨rfl,_,fs,qv,st+1,HR2.out.at (fun p hp=>?_),HW2.out,Grow.refl _ _ _,(fun e=>by simp at e),by omega⟩
  rw [SN.out p]
  unfold takesR
  by_cases e:p=a0
  ·subst e
   rw [if_pos rfl,if_neg (show ¬ p=d.n+v0 by omega),if_pos ha];simp
  ·rw [if_neg e]
   by_cases e2:p=d.n+v0
   ·subst e2
    rw [if_pos rfl,if_neg (show ¬ d.n+v0 < d.n by omega)];simp
   ·rw [if_neg e2]
    by_cases hpn:p < d.n
    ·rw [if_pos hpn];simp;omega
    ·rw [if_neg hpn];simp;omega
 ·by_cases hab:a0=b0
  ·subst hab
   have hh:h0 < d.n:=hh
   have ha:a0 < d.n:=ha
   obtain ⟨w3,hw3⟩:∃ V,V=(w.setCell ⟨d.M,3,none⟩ (.int .i64 ((st:Int)+1))).alloc (.cells #[.int .i64 4,.int .i64 h0,.int .i64 0,.int .i64 a0,.int .i64 a0,.int .i64 0] 151):=⟨_,rfl⟩
   have HA:=Lib.hid (show MkAt w3 d rs rv fs k qv (st+1) by rw [hw3];exact (h.steps (st+1)).below ((Below.refl _ _).alloc (Nat.le_refl _) _))
   have HB:=Lib.hid (show Below d.F w w3 by rw [hw3];exact (kp_low (Kp.set (X:=mkX d qv) (w:=w) (o:=3) (v:=.int .i64 ((st:Int)+1)) (.inl rfl)) hlow (mkX_ge h)).alloc (by simpa using hlow) _)
   have HR3:=Lib.hid (show Blk w3 w.heap.size #[.int .i64 4,.int .i64 h0,.int .i64 0,.int .i64 a0,.int .i64 a0,.int .i64 0] by rw [hw3];have:=Blk.new (w.setCell ⟨d.M,3,none⟩ (.int .i64 ((st:Int)+1))) #[.int .i64 4,.int .i64 h0,.int .i64 0,.int .i64 a0,.int .i64 a0,.int .i64 0] 151;simpa using this)
   have hbC:d.C≤w.heap.size:=h.b.le
   have hbR:∀ p,p < d.n+d.lk→∀ g,(rv p).ownBlock=some g→g≠w.heap.size:=fun p hp g hg e=>by have:=((h.b.own p hp).lt g hg).2;omega
   have hbQ:∀ g,qv.ownBlock=some g→g≠w.heap.size:=fun g hg e=>by have:=(h.qge g hg).2;omega
   clear h
   have HR0:=Lib.hid HA.out.r
   have HB0:=HR3
   have HW0:=HB
   have hbR0:=hbR
   clear HA HR3 HB hbR
   have dab:((a0:Int) != (a0:Int))=false:=by simp
   go_enter Tryz.func232,Tryz.ntmps232
   go_wp2_with fail
   rw [← hw3]
   clear hw3 ck fk zk cm fm zm
   have hL0:(rowL d.n rs (a0)).length≤100001:=Nat.le_succ_of_le (Nat.le_trans (HL _) hrs)
   have hown0:=HR0.out.own (a0) (by omega)
   obtain ⟨ro0,rc0,hrv0⟩:=own_form hown0
   obtain ⟨L0,hLe0⟩:∃ L,L=(rowL d.n rs (a0)).length:=⟨_,rfl⟩
   rw [← hLe0] at hrv0 hL0
   have HLe0:=Lib.hid hLe0
   have HRV0:=Lib.hid hrv0
   rw [hrv0,← hLe0] at hown0
   have HOW0:=Lib.hid hown0
   have HRa:=HR0.out.below (below_drew (Below.refl _ _))
   have hcell0:(w3.drew).cell? ⟨d.BY,a0,none⟩=some (.slice ro0 L0 rc0):=by have:=(HRa.by_).1 (a0);rw [arrOf_get,if_pos ha,hrv0] at this;exact this
   have HRd:=Lib.hid HRa
   have HBd:=Lib.hid (HB0.out.below (below_drew (Below.refl _ _)))
   have HWd:=Lib.hid (HW0.out.trans ((below_drew (Below.refl _ _)).mono (HR0.out.f.ff.2.2 |> Nat.le_of_lt)))
   have HOd:=Lib.hid (own_below HOW0.out (below_drew (Below.refl w3.heap.size w3)))
   clear HRa hown0 HOW0 hLe0
   refine wp_region_last (S:=(fun W=>(∀ o,W.cell? ⟨d.K,o,none⟩=(#[.pointer (some ⟨d.M,0,none⟩),.slice (some ⟨d.BY,0,none⟩) d.n d.n,.slice (some ⟨d.VIA,0,none⟩) d.lk d.lk,qv]:Array Value)[o]?)∧(∀ o,W.cell? ⟨w.heap.size,o,none⟩=(#[.int .i64 4,.int .i64 h0,.int .i64 0,.int .i64 a0,.int .i64 a0,.int .i64 0]:Array Value)[o]?)∧W.cell? ⟨d.BY,a0,none⟩=some (.slice ro0 L0 rc0))) 18 (by kernel_rfl) ⟨HRd.out.kk.1,HBd.out.1,hcell0⟩ (fun hHeld=>?_)
   obtain ⟨wd0,hwd⟩:∃ W,W=w3.drew:=⟨_,rfl⟩
   rw [← hwd] at HRd HBd HWd HOd hHeld hcell0 ⊢
   clear hwd hrv0 HR0 HB0 HW0
   (refine lyes 0 ?_);(refine lyes 1 ?_);(refine lyes 2 ?_);(refine lyes 3 ?_);(refine lyes 4 ?_);(refine lyes 5 ?_);(refine lyes 6 ?_);(refine lyes 7 ?_);(refine lyes 8 ?_);(refine lyes 9 ?_);(refine lyes 10 ?_);(refine lyes 11 ?_);(refine lyes 12 ?_);(refine lyes 13 ?_);(refine lyes 14 ?_);(try simp only [Act.put,List.setIfInBounds_toArray,List.set])
   (refine last_call 15 rfl (by kernel_rfl) (fun K hK=>?_);go_simp)
   have hba:Below wd0.heap.size wd0 (wd0.alloc (.cells #[.int .i64 4,.int .i64 h0,.int .i64 0,.int .i64 a0,.int .i64 a0,.int .i64 0] 151)):=(Below.refl _ _).alloc (Nat.le_refl _) _
   have hne:=Blk.new wd0 #[.int .i64 4,.int .i64 h0,.int .i64 0,.int .i64 a0,.int .i64 a0,.int .i64 0] 151
   have hce:=(hba.cell (p:=⟨d.BY,a0,none⟩) (World.block_lt_of_cell? wd0 _ hcell0)).trans hcell0
   have HRe:=Lib.hid (HRd.out.below hba)
   have HBe:=Lib.hid (HBd.out.below hba)
   have HWe:=Lib.hid (HWd.out.trans (hba.mono (Nat.le_of_lt HRd.out.f.ff.2.2)))
   have HOe:=own_below HOd.out hba
   (refine hK.out _ _ ⟨HRe.out.kk.1,HBe.out.1,hce⟩ (fun hHeld=>?_);clear hK K;(try simp only [Act.put,List.setIfInBounds_toArray,List.set]))
   refine last_call 16 rfl (by kernel_rfl) (fun K hK=>?_)
   refine step_rowE rfl _ _ 162 rfl d.C 151 infr _ 6 48 Tryz.underlying162 HIR.out hr0 hr1 hr2 (Nat.le_of_ble_eq_true rfl) rfl (Nat.le_of_ble_eq_true rfl) _ L0 _ rfl HOe _ 1 _ rfl (slA_one hne) (ru1 _ _ _ _ _ _) (by omega) HRe.out.le ?_
   intro s0 c0 w5 ho5 hg5 hn5
   have hk5:Kp (fun b=>some b=(Value.slice ro0 L0 rc0).ownBlock) (wd0.alloc (.cells #[.int .i64 4,.int .i64 h0,.int .i64 0,.int .i64 a0,.int .i64 a0,.int .i64 0] 151)) w5:=Kp.of_grown hg5 (fun b hb=>hb)
   have hgX:∀ b,b < d.C→¬ some b=(Value.slice ro0 L0 rc0).ownBlock:=fun b hb e=>by have:=(HOe.lt b e.symm).1;omega
   have hK5:=hk5.blk HRe.out.kk (hgX _ (by have:=HRe.out.ok.o5;have:=HRe.out.ok.o8;omega))
   have hB5:=hk5.blk HBe.out (fun e=>hbR0 (a0) (by omega) _ (by rw [HRV0.out];exact e.symm) rfl)
   have hc5:=(World.cell?_of_block (a:=⟨d.BY,a0,none⟩) (hk5.block _ (World.block_lt_of_cell? _ _ hce) (hgX _ HRe.out.ok.o8))).trans hce
   (refine hK.out _ _ ⟨hK5.1,hB5.1,hc5⟩ (fun hHeld=>?_);clear hK K;(try simp only [Act.put,List.setIfInBounds_toArray,List.set]))
   (refine lyes 17 ?_);(try simp only [Act.put,List.setIfInBounds_toArray,List.set])
   have hf5:w5.frozen? ⟨d.BY,a0,none⟩=false:=((hk5.blk HRe.out.by_ (hgX _ HRe.out.ok.o8)).2.1 _)
   have HP:=Lib.hid (HRe.out.put (p:=a0) (by omega) (r:=⟨4,h0,0,a0,a0,0⟩) (v':=.slice s0 (L0+1) c0) (w1:=w5) (by rw [List.length_append,List.flatMap_append,← HLe0.out];exact ho5) (by rw [HRV0.out];exact hg5) (by rw [HRV0.out];exact hn5))
   have HPB:=Lib.hid (Kp.blk (X:=fun b=>b=d.BY) (Kp.set (b:=d.BY) (o:=a0) (v:=.slice s0 (L0+1) c0) rfl) hB5 (by have:=HRe.out.ok.o8;have:=HRe.out.ok.o9;omega))
   clear hba hne hce hk5 hgX hK5 hB5 HRd HBd HOd HOe ho5 hg5
   (refine last_end 18 rfl (by kernel_rfl) (by kernel_rfl) (fun K hK=>?_);go_simp)
   clear hc5 hf5
   refine hK.out _ _ ?_
   clear hK K
   have hst9:=HP.out
   rw [show (if a0 < d.n then (⟨d.BY,a0,none⟩:Addr) else ⟨d.VIA,a0 - d.n,none⟩)=⟨d.BY,a0,none⟩ from if_pos ha] at hst9
   obtain ⟨w1,hw1⟩:∃ V,V=w5.setCell ⟨d.BY,a0,none⟩ (.slice s0 (L0+1) c0):=⟨_,rfl⟩
   rw [← hw1] at hst9 HPB ⊢
   clear hw1
   have HR1:=Lib.hid hst9.1
   have HW1:=Lib.hid (HWe.out.trans hst9.2)
   have HB1:=HPB
   have hnew:Value.ownBlock (.slice s0 (L0+1) c0)≠some w.heap.size:=fun e=>hn5 w.heap.size HBe.out.2.2 (fun e2=>hbR0 (a0) (by omega) _ (by rw [HRV0.out];exact e2.symm) rfl) e.symm
   have hbR1:∀ q,q < d.n+d.lk→∀ g,(rowPut (rv) (a0) (.slice s0 (L0+1) c0) q).ownBlock=some g→g≠w.heap.size:=fun q hq g hg=>by
    unfold rowPut at hg
    by_cases e:q=a0
    ·rw [if_pos e] at hg
     intro eg
     exact hnew (eg ▸ hg)
    ·rw [if_neg e] at hg;exact hbR0 q hq g hg
   clear HP HPB HWe HRe HBe hn5 hst9 hnew
   go_wp2
   go_end0
   refine ⟨rfl,_,fs,qv,st+1,HR1.out.at (fun p hp=>?_),HW1.out,Grow.refl _ _ _,(fun e=>by simp at e),by omega⟩
   rw [SN.out p]
   unfold takesR
   by_cases e:p=a0
   ·subst e;rw [if_pos rfl,if_pos ha];simp
   ·rw [if_neg e]
    by_cases hpn:p < d.n
    ·rw [if_pos hpn];simp;omega
    ·rw [if_neg hpn];simp
  ·have hh:h0 < d.n:=hh
   have ha:a0 < d.n:=ha
   have hb:b0 < d.n:=hb
   obtain ⟨w3,hw3⟩:∃ V,V=(w.setCell ⟨d.M,3,none⟩ (.int .i64 ((st:Int)+1))).alloc (.cells #[.int .i64 4,.int .i64 h0,.int .i64 0,.int .i64 a0,.int .i64 b0,.int .i64 0] 151):=⟨_,rfl⟩
   have HA:=Lib.hid (show MkAt w3 d rs rv fs k qv (st+1) by rw [hw3];exact (h.steps (st+1)).below ((Below.refl _ _).alloc (Nat.le_refl _) _))
   have HB:=Lib.hid (show Below d.F w w3 by rw [hw3];exact (kp_low (Kp.set (X:=mkX d qv) (w:=w) (o:=3) (v:=.int .i64 ((st:Int)+1)) (.inl rfl)) hlow (mkX_ge h)).alloc (by simpa using hlow) _)
   have HR3:=Lib.hid (show Blk w3 w.heap.size #[.int .i64 4,.int .i64 h0,.int .i64 0,.int .i64 a0,.int .i64 b0,.int .i64 0] by rw [hw3];have:=Blk.new (w.setCell ⟨d.M,3,none⟩ (.int .i64 ((st:Int)+1))) #[.int .i64 4,.int .i64 h0,.int .i64 0,.int .i64 a0,.int .i64 b0,.int .i64 0] 151;simpa using this)
   have hbC:d.C≤w.heap.size:=h.b.le
   have hbR:∀ p,p < d.n+d.lk→∀ g,(rv p).ownBlock=some g→g≠w.heap.size:=fun p hp g hg e=>by have:=((h.b.own p hp).lt g hg).2;omega
   have hbQ:∀ g,qv.ownBlock=some g→g≠w.heap.size:=fun g hg e=>by have:=(h.qge g hg).2;omega
   clear h
   have HR0:=Lib.hid HA.out.r
   have HB0:=HR3
   have HW0:=HB
   have hbR0:=hbR
   clear HA HR3 HB hbR
   have dab:((b0:Int) != (a0:Int))=true:=by rw [bne_iff_ne];omega
   go_enter Tryz.func232,Tryz.ntmps232
   go_wp2_with fail
   rw [← hw3]
   clear hw3 ck fk zk cm fm zm
   have hL0:(rowL d.n rs (b0)).length≤100001:=Nat.le_succ_of_le (Nat.le_trans (HL _) hrs)
   have hown0:=HR0.out.own (b0) (by omega)
   obtain ⟨ro0,rc0,hrv0⟩:=own_form hown0
   obtain ⟨L0,hLe0⟩:∃ L,L=(rowL d.n rs (b0)).length:=⟨_,rfl⟩
   rw [← hLe0] at hrv0 hL0
   have HLe0:=Lib.hid hLe0
   have HRV0:=Lib.hid hrv0
   rw [hrv0,← hLe0] at hown0
   have HOW0:=Lib.hid hown0
   have HRa:=HR0.out.below (below_drew (Below.refl _ _))
   have hcell0:(w3.drew).cell? ⟨d.BY,b0,none⟩=some (.slice ro0 L0 rc0):=by have:=(HRa.by_).1 (b0);rw [arrOf_get,if_pos hb,hrv0] at this;exact this
   have HRd:=Lib.hid HRa
   have HBd:=Lib.hid (HB0.out.below (below_drew (Below.refl _ _)))
   have HWd:=Lib.hid (HW0.out.trans ((below_drew (Below.refl _ _)).mono (HR0.out.f.ff.2.2 |> Nat.le_of_lt)))
   have HOd:=Lib.hid (own_below HOW0.out (below_drew (Below.refl w3.heap.size w3)))
   clear HRa hown0 HOW0 hLe0
   refine wp_region_last (S:=(fun W=>(∀ o,W.cell? ⟨d.K,o,none⟩=(#[.pointer (some ⟨d.M,0,none⟩),.slice (some ⟨d.BY,0,none⟩) d.n d.n,.slice (some ⟨d.VIA,0,none⟩) d.lk d.lk,qv]:Array Value)[o]?)∧(∀ o,W.cell? ⟨w.heap.size,o,none⟩=(#[.int .i64 4,.int .i64 h0,.int .i64 0,.int .i64 a0,.int .i64 b0,.int .i64 0]:Array Value)[o]?)∧W.cell? ⟨d.BY,b0,none⟩=some (.slice ro0 L0 rc0))) 18 (by kernel_rfl) ⟨HRd.out.kk.1,HBd.out.1,hcell0⟩ (fun hHeld=>?_)
   obtain ⟨wd0,hwd⟩:∃ W,W=w3.drew:=⟨_,rfl⟩
   rw [← hwd] at HRd HBd HWd HOd hHeld hcell0 ⊢
   clear hwd hrv0 HR0 HB0 HW0
   (refine lyes 0 ?_);(refine lyes 1 ?_);(refine lyes 2 ?_);(refine lyes 3 ?_);(refine lyes 4 ?_);(refine lyes 5 ?_);(refine lyes 6 ?_);(refine lyes 7 ?_);(refine lyes 8 ?_);(refine lyes 9 ?_);(refine lyes 10 ?_);(refine lyes 11 ?_);(refine lyes 12 ?_);(refine lyes 13 ?_);(refine lyes 14 ?_);(try simp only [Act.put,List.setIfInBounds_toArray,List.set])
   (refine last_call 15 rfl (by kernel_rfl) (fun K hK=>?_);go_simp)
   have hba:Below wd0.heap.size wd0 (wd0.alloc (.cells #[.int .i64 4,.int .i64 h0,.int .i64 0,.int .i64 a0,.int .i64 b0,.int .i64 0] 151)):=(Below.refl _ _).alloc (Nat.le_refl _) _
   have hne:=Blk.new wd0 #[.int .i64 4,.int .i64 h0,.int .i64 0,.int .i64 a0,.int .i64 b0,.int .i64 0] 151
   have hce:=(hba.cell (p:=⟨d.BY,b0,none⟩) (World.block_lt_of_cell? wd0 _ hcell0)).trans hcell0
   have HRe:=Lib.hid (HRd.out.below hba)
   have HBe:=Lib.hid (HBd.out.below hba)
   have HWe:=Lib.hid (HWd.out.trans (hba.mono (Nat.le_of_lt HRd.out.f.ff.2.2)))
   have HOe:=own_below HOd.out hba
   (refine hK.out _ _ ⟨HRe.out.kk.1,HBe.out.1,hce⟩ (fun hHeld=>?_);clear hK K;(try simp only [Act.put,List.setIfInBounds_toArray,List.set]))
   refine last_call 16 rfl (by kernel_rfl) (fun K hK=>?_)
   refine step_rowE rfl _ _ 162 rfl d.C 151 infr _ 6 48 Tryz.underlying162 HIR.out hr0 hr1 hr2 (Nat.le_of_ble_eq_true rfl) rfl (Nat.le_of_ble_eq_true rfl) _ L0 _ rfl HOe _ 1 _ rfl (slA_one hne) (ru1 _ _ _ _ _ _) (by omega) HRe.out.le ?_
   intro s0 c0 w5 ho5 hg5 hn5
   have hk5:Kp (fun b=>some b=(Value.slice ro0 L0 rc0).ownBlock) (wd0.alloc (.cells #[.int .i64 4,.int .i64 h0,.int .i64 0,.int .i64 a0,.int .i64 b0,.int .i64 0] 151)) w5:=Kp.of_grown hg5 (fun b hb=>hb)
   have hgX:∀ b,b < d.C→¬ some b=(Value.slice ro0 L0 rc0).ownBlock:=fun b hb e=>by have:=(HOe.lt b e.symm).1;omega
   have hK5:=hk5.blk HRe.out.kk (hgX _ (by have:=HRe.out.ok.o5;have:=HRe.out.ok.o8;omega))
   have hB5:=hk5.blk HBe.out (fun e=>hbR0 (b0) (by omega) _ (by rw [HRV0.out];exact e.symm) rfl)
   have hc5:=(World.cell?_of_block (a:=⟨d.BY,b0,none⟩) (hk5.block _ (World.block_lt_of_cell? _ _ hce) (hgX _ HRe.out.ok.o8))).trans hce
   (refine hK.out _ _ ⟨hK5.1,hB5.1,hc5⟩ (fun hHeld=>?_);clear hK K;(try simp only [Act.put,List.setIfInBounds_toArray,List.set]))
   (refine lyes 17 ?_);(try simp only [Act.put,List.setIfInBounds_toArray,List.set])
   have hf5:w5.frozen? ⟨d.BY,b0,none⟩=false:=((hk5.blk HRe.out.by_ (hgX _ HRe.out.ok.o8)).2.1 _)
   have HP:=Lib.hid (HRe.out.put (p:=b0) (by omega) (r:=⟨4,h0,0,a0,b0,0⟩) (v':=.slice s0 (L0+1) c0) (w1:=w5) (by rw [List.length_append,List.flatMap_append,← HLe0.out];exact ho5) (by rw [HRV0.out];exact hg5) (by rw [HRV0.out];exact hn5))
   have HPB:=Lib.hid (Kp.blk (X:=fun b=>b=d.BY) (Kp.set (b:=d.BY) (o:=b0) (v:=.slice s0 (L0+1) c0) rfl) hB5 (by have:=HRe.out.ok.o8;have:=HRe.out.ok.o9;omega))
   clear hba hne hce hk5 hgX hK5 hB5 HRd HBd HOd HOe ho5 hg5
   (refine last_end 18 rfl (by kernel_rfl) (by kernel_rfl) (fun K hK=>?_);go_simp)
   clear hc5 hf5
   refine hK.out _ _ ?_
   clear hK K
   have hst9:=HP.out
   rw [show (if b0 < d.n then (⟨d.BY,b0,none⟩:Addr) else ⟨d.VIA,b0 - d.n,none⟩)=⟨d.BY,b0,none⟩ from if_pos hb] at hst9
   obtain ⟨w1,hw1⟩:∃ V,V=w5.setCell ⟨d.BY,b0,none⟩ (.slice s0 (L0+1) c0):=⟨_,rfl⟩
   rw [← hw1] at hst9 HPB ⊢
   clear hw1
   have HR1:=Lib.hid hst9.1
   have HW1:=Lib.hid (HWe.out.trans hst9.2)
   have HB1:=HPB
   have hnew:Value.ownBlock (.slice s0 (L0+1) c0)≠some w.heap.size:=fun e=>hn5 w.heap.size HBe.out.2.2 (fun e2=>hbR0 (b0) (by omega) _ (by rw [HRV0.out];exact e2.symm) rfl) e.symm
   have hbR1:∀ q,q < d.n+d.lk→∀ g,(rowPut (rv) (b0) (.slice s0 (L0+1) c0) q).ownBlock=some g→g≠w.heap.size:=fun q hq g hg=>by
    unfold rowPut at hg
    by_cases e:q=b0
    ·rw [if_pos e] at hg
     intro eg
     exact hnew (eg ▸ hg)
    ·rw [if_neg e] at hg;exact hbR0 q hq g hg
   clear HP HPB HWe HRe HBe hn5 hst9 hnew
   go_wp2_with fail
   have hL1:((fun q=>if q=b0 then rowL d.n rs b0++[⟨4,h0,0,a0,b0,0⟩] else rowL d.n rs q) (a0)).length≤100001:=by dsimp only;rw [if_neg (show ¬ a0=b0 by omega)];exact Nat.le_succ_of_le (Nat.le_trans (HL _) hrs)
   have hown1:=HR1.out.own (a0) (by omega)
   obtain ⟨ro1,rc1,hrv1⟩:=own_form hown1
   obtain ⟨L1,hLe1⟩:∃ L,L=((fun q=>if q=b0 then rowL d.n rs b0++[⟨4,h0,0,a0,b0,0⟩] else rowL d.n rs q) (a0)).length:=⟨_,rfl⟩
   rw [← hLe1] at hrv1 hL1
   have HLe1:=Lib.hid hLe1
   have HRV1:=Lib.hid hrv1
   rw [hrv1,← hLe1] at hown1
   have HOW1:=Lib.hid hown1
   have HRa:=HR1.out.below (below_drew (Below.refl _ _))
   have hcell1:(w1.drew).cell? ⟨d.BY,a0,none⟩=some (.slice ro1 L1 rc1):=by have:=(HRa.by_).1 (a0);rw [arrOf_get,if_pos ha,hrv1] at this;exact this
   have HRd:=Lib.hid HRa
   have HBd:=Lib.hid (HB1.out.below (below_drew (Below.refl _ _)))
   have HWd:=Lib.hid (HW1.out.trans ((below_drew (Below.refl _ _)).mono (HR1.out.f.ff.2.2 |> Nat.le_of_lt)))
   have HOd:=Lib.hid (own_below HOW1.out (below_drew (Below.refl w1.heap.size w1)))
   clear HRa hown1 HOW1 hLe1
   refine wp_region_last (S:=(fun W=>(∀ o,W.cell? ⟨d.K,o,none⟩=(#[.pointer (some ⟨d.M,0,none⟩),.slice (some ⟨d.BY,0,none⟩) d.n d.n,.slice (some ⟨d.VIA,0,none⟩) d.lk d.lk,qv]:Array Value)[o]?)∧(∀ o,W.cell? ⟨w.heap.size,o,none⟩=(#[.int .i64 4,.int .i64 h0,.int .i64 0,.int .i64 a0,.int .i64 b0,.int .i64 0]:Array Value)[o]?)∧W.cell? ⟨d.BY,a0,none⟩=some (.slice ro1 L1 rc1))) 18 (by kernel_rfl) ⟨HRd.out.kk.1,HBd.out.1,hcell1⟩ (fun hHeld=>?_)
   obtain ⟨wd1,hwd⟩:∃ W,W=w1.drew:=⟨_,rfl⟩
   rw [← hwd] at HRd HBd HWd HOd hHeld hcell1 ⊢
   clear hwd hrv1 HR1 HB1 HW1
   (refine lyes 0 ?_);(refine lyes 1 ?_);(refine lyes 2 ?_);(refine lyes 3 ?_);(refine lyes 4 ?_);(refine lyes 5 ?_);(refine lyes 6 ?_);(refine lyes 7 ?_);(refine lyes 8 ?_);(refine lyes 9 ?_);(refine lyes 10 ?_);(refine lyes 11 ?_);(refine lyes 12 ?_);(refine lyes 13 ?_);(refine lyes 14 ?_);(try simp only [Act.put,List.setIfInBounds_toArray,List.set])
   (refine last_call 15 rfl (by kernel_rfl) (fun K hK=>?_);go_simp)
   have hba:Below wd1.heap.size wd1 (wd1.alloc (.cells #[.int .i64 4,.int .i64 h0,.int .i64 0,.int .i64 a0,.int .i64 b0,.int .i64 0] 151)):=(Below.refl _ _).alloc (Nat.le_refl _) _
   have hne:=Blk.new wd1 #[.int .i64 4,.int .i64 h0,.int .i64 0,.int .i64 a0,.int .i64 b0,.int .i64 0] 151
   have hce:=(hba.cell (p:=⟨d.BY,a0,none⟩) (World.block_lt_of_cell? wd1 _ hcell1)).trans hcell1
   have HRe:=Lib.hid (HRd.out.below hba)
   have HBe:=Lib.hid (HBd.out.below hba)
   have HWe:=Lib.hid (HWd.out.trans (hba.mono (Nat.le_of_lt HRd.out.f.ff.2.2)))
   have HOe:=own_below HOd.out hba
   (refine hK.out _ _ ⟨HRe.out.kk.1,HBe.out.1,hce⟩ (fun hHeld=>?_);clear hK K;(try simp only [Act.put,List.setIfInBounds_toArray,List.set]))
   refine last_call 16 rfl (by kernel_rfl) (fun K hK=>?_)
   refine step_rowE rfl _ _ 162 rfl d.C 151 infr _ 6 48 Tryz.underlying162 HIR.out hr0 hr1 hr2 (Nat.le_of_ble_eq_true rfl) rfl (Nat.le_of_ble_eq_true rfl) _ L1 _ rfl HOe _ 1 _ rfl (slA_one hne) (ru1 _ _ _ _ _ _) (by omega) HRe.out.le ?_
   intro s1 c1 w5 ho5 hg5 hn5
   have hk5:Kp (fun b=>some b=(Value.slice ro1 L1 rc1).ownBlock) (wd1.alloc (.cells #[.int .i64 4,.int .i64 h0,.int .i64 0,.int .i64 a0,.int .i64 b0,.int .i64 0] 151)) w5:=Kp.of_grown hg5 (fun b hb=>hb)
   have hgX:∀ b,b < d.C→¬ some b=(Value.slice ro1 L1 rc1).ownBlock:=fun b hb e=>by have:=(HOe.lt b e.symm).1;omega
   have hK5:=hk5.blk HRe.out.kk (hgX _ (by have:=HRe.out.ok.o5;have:=HRe.out.ok.o8;omega))
   have hB5:=hk5.blk HBe.out (fun e=>hbR1 (a0) (by omega) _ (by rw [HRV1.out];exact e.symm) rfl)
   have hc5:=(World.cell?_of_block (a:=⟨d.BY,a0,none⟩) (hk5.block _ (World.block_lt_of_cell? _ _ hce) (hgX _ HRe.out.ok.o8))).trans hce
   (refine hK.out _ _ ⟨hK5.1,hB5.1,hc5⟩ (fun hHeld=>?_);clear hK K;(try simp only [Act.put,List.setIfInBounds_toArray,List.set]))
   (refine lyes 17 ?_);(try simp only [Act.put,List.setIfInBounds_toArray,List.set])
   have hf5:w5.frozen? ⟨d.BY,a0,none⟩=false:=((hk5.blk HRe.out.by_ (hgX _ HRe.out.ok.o8)).2.1 _)
   have HP:=Lib.hid (HRe.out.put (p:=a0) (by omega) (r:=⟨4,h0,0,a0,b0,0⟩) (v':=.slice s1 (L1+1) c1) (w1:=w5) (by rw [List.length_append,List.flatMap_append,← HLe1.out];exact ho5) (by rw [HRV1.out];exact hg5) (by rw [HRV1.out];exact hn5))
   have HPB:=Lib.hid (Kp.blk (X:=fun b=>b=d.BY) (Kp.set (b:=d.BY) (o:=a0) (v:=.slice s1 (L1+1) c1) rfl) hB5 (by have:=HRe.out.ok.o8;have:=HRe.out.ok.o9;omega))
   clear hba hne hce hk5 hgX hK5 hB5 HRd HBd HOd HOe ho5 hg5
   (refine last_end 18 rfl (by kernel_rfl) (by kernel_rfl) (fun K hK=>?_);go_simp)
   clear hc5 hf5
   refine hK.out _ _ ?_
   clear hK K
   have hst9:=HP.out
   rw [show (if a0 < d.n then (⟨d.BY,a0,none⟩:Addr) else ⟨d.VIA,a0 - d.n,none⟩)=⟨d.BY,a0,none⟩ from if_pos ha] at hst9
   obtain ⟨w2,hw2⟩:∃ V,V=w5.setCell ⟨d.BY,a0,none⟩ (.slice s1 (L1+1) c1):=⟨_,rfl⟩
   rw [← hw2] at hst9 HPB ⊢
   clear hw2
   have HR2:=Lib.hid hst9.1
   have HW2:=Lib.hid (HWe.out.trans hst9.2)
   have HB2:=HPB
   have hnew:Value.ownBlock (.slice s1 (L1+1) c1)≠some w.heap.size:=fun e=>hn5 w.heap.size HBe.out.2.2 (fun e2=>hbR1 (a0) (by omega) _ (by rw [HRV1.out];exact e2.symm) rfl) e.symm
   have hbR2:∀ q,q < d.n+d.lk→∀ g,(rowPut (rowPut rv b0 (.slice s0 (L0+1) c0)) (a0) (.slice s1 (L1+1) c1) q).ownBlock=some g→g≠w.heap.size:=fun q hq g hg=>by
    unfold rowPut at hg
    by_cases e:q=a0
    ·rw [if_pos e] at hg
     intro eg
     exact hnew (eg ▸ hg)
    ·rw [if_neg e] at hg;exact hbR1 q hq g hg
   clear HP HPB HWe HRe HBe hn5 hst9 hnew
   go_wp2
   go_end0
   refine ⟨rfl,_,fs,qv,st+1,HR2.out.at (fun p hp=>?_),HW2.out,Grow.refl _ _ _,(fun e=>by simp at e),by omega⟩
   rw [SN.out p]
   unfold takesR
   by_cases e:p=a0
   ·subst e
    rw [if_pos rfl,if_neg (show ¬ p=b0 by omega),if_pos ha];simp
   ·rw [if_neg e]
    by_cases e2:p=b0
    ·subst e2
     rw [if_pos rfl,if_pos hb];simp
    ·rw [if_neg e2]
     by_cases hpn:p < d.n
     ·rw [if_pos hpn];simp;omega
     ·rw [if_neg hpn];simp
end
section
open Go.RowKit Go.Shelf

set_option maxRecDepth 100000 in
set_option maxHeartbeats 16000000 in
theorem mk_look {w:World} {d:MkI} {rs:List Ru} {rv:Nat→Value} {fs:List (Nat × Nat)} {k:Nat} {qv:Value} {st:Nat} (h:MkAt w d rs rv fs k qv st) (ρ x:Nat) (hf:(ρ,x)∈fs) (hok:∀ r∈rs,okRu d.pr d.lk r=true) (hst:st≤90000000000) (hrs:rs.length≤100000) :
  Calls Tryz.prog 233 #[.pointer (some ⟨d.K,0,none⟩),.agg #[.int .i64 ρ,.int .i64 x]] w fun e w'=>e=.returned (.tuple #[])∧∃ fs' qv' st',MkMore w d rs rv fs k qv w' fs' qv' st'∧Grow d.lk rs fs fs'∧Looked d.lk rs (ρ,x) fs fs'∧st'≤st+rs.length * (d.pr+1)+rs.length * 2:=by
 have HH:=Lib.hid h
 have hrx:=h.f.rng _ hf
 dsimp only at hrx
 obtain ⟨hρ,hx⟩:=hrx
 have p64:=h.ok.p64
 have l64:=h.ok.l64
 have hle:=h.b.le
 have hlk:0 < d.lk:=Nat.pos_of_ne_zero (fun e=>by unfold MkI.n at hρ;rw [e] at hρ;omega)
 have hnn:d.n≤64 * 64:=Nat.mul_le_mul p64 l64
 obtain ⟨w1,hw1⟩:∃ V,V=w.alloc (.cells #[.int .i64 ρ,.int .i64 x] 252):=⟨_,rfl⟩
 have hb1:Below w.heap.size w w1:=by rw [hw1];exact (Below.refl _ _).alloc (Nat.le_refl _) _
 have H1:=Lib.hid (MkMore.start h |>.below hb1)
 have F1:=Lib.hid (show Blk w1 w.heap.size #[.int .i64 ρ,.int .i64 x] by rw [hw1];exact Blk.new _ _ _)
 have hbfX:¬ mkX d qv w.heap.size:=mkX_far h (by omega) (fun e=>by have:=(h.qge w.heap.size e).2;omega)
 have hown:=h.b.own ρ (by omega)
 obtain ⟨ro,rc,hrv⟩:=own_form hown
 have HBL:=Lib.hid (show rowL d.n rs ρ=byR rs ρ from if_pos hρ)
 have hBlen:=rowL_len d.n rs ρ
 have hrowX:∀ g,(rv ρ).ownBlock=some g→¬ mkX d qv g:=fun g hg=>mkX_far h (hown.lt g hg).1 (h.b.qa ρ (by omega) g hg)
 rw [HBL.out] at hown hBlen hrv
 clear HBL
 generalize hB:byR rs ρ=B at *
 have HB:=Lib.hid hB
 clear hB
 rw [hrv] at hown hrowX
 have HOW:=Lib.hid hown
 have HRX:=Lib.hid hrowX
 have HBX:=Lib.hid hbfX
 clear hbfX
 clear hown hrowX
 obtain ⟨mv,hmd⟩:∃ m,m=ρ % d.lk:=⟨_,rfl⟩
 obtain ⟨q3,hqd⟩:∃ q,q=ρ / d.lk:=⟨_,rfl⟩
 have hmv:mv < d.lk:=by rw [hmd];exact Nat.mod_lt _ hlk
 have HQM:=Lib.hid (show q3 * d.lk+mv=ρ by rw [hqd,hmd,Nat.mul_comm];exact Nat.div_add_mod _ _)
 have hownV:=h.b.own (d.n+mv) (by omega)
 obtain ⟨vo,vc,hvv⟩:=own_form hownV
 have HVL:=Lib.hid (show rowL d.n rs (d.n+mv)=viaR rs mv by unfold rowL;rw [if_neg (by omega),show d.n+mv - d.n=mv by omega])
 have hVlen:=rowL_len d.n rs (d.n+mv)
 have hviaX:∀ g,(rv (d.n+mv)).ownBlock=some g→¬ mkX d qv g:=fun g hg=>mkX_far h (hownV.lt g hg).1 (h.b.qa (d.n+mv) (by omega) g hg)
 rw [HVL.out] at hownV hVlen hvv
 clear HVL
 generalize hV:viaR rs mv=V at *
 have HV:=Lib.hid hV
 clear hV
 rw [hvv] at hownV hviaX
 have HOV:=Lib.hid hownV
 have HVX:=Lib.hid hviaX
 have HVR:=Lib.hid hvv
 clear hownV hviaX hvv
 have HK0w:=0
 clear HK0w
 have HIN:=Lib.hid (show ∀ r∈rs,r.k≠1→(r.a.toNat=ρ∨r.k=4∧r.b.toNat=ρ)→∃ j,∃ hj:j < B.length,B[j]=r from fun r hr hk ha=>by
  have hm:r∈byR rs ρ:=byR_mem.2 ⟨hr,hk,by
   rcases okRu_cases (hok _ hr) with ⟨_,_,rfl,_,_⟩ | ⟨h0,a0,rfl,hh,ha'⟩ | ⟨h0,a0,v0,rfl,hh,ha',hv⟩ | ⟨h0,a0,b0,rfl,hh,ha',hb⟩
   ·exact absurd rfl hk
   ·simp at ha ⊢;omega
   ·simp at ha ⊢;omega
   ·simp at ha ⊢;omega⟩
  rw [HB.out] at hm
  exact List.getElem_of_mem hm)
 have HIV:=Lib.hid (show ∀ r∈rs,r.k=3→r.via.toNat=mv→∃ j,∃ hj:j < V.length,V[j]=r from fun r hr hk ha=>by
  have hm:r∈viaR rs mv:=viaR_mem.2 ⟨hr,hk,by
   rcases okRu_cases (hok _ hr) with ⟨_,_,rfl,_,_⟩ | ⟨h0,a0,rfl,hh,ha'⟩ | ⟨h0,a0,v0,rfl,hh,ha',hv⟩ | ⟨h0,a0,b0,rfl,hh,ha',hb⟩
   ·simp at hk
   ·simp at hk
   ·simp at ha ⊢;omega
   ·simp at hk⟩
  rw [HV.out] at hm
  exact List.getElem_of_mem hm)
 have hlk0:((d.lk:Int) == 0)=false:=by rw [beq_eq_false_iff_ne];omega
 have hlk1:¬ (d.lk:Int)=0:=by omega
 have hlk2:¬ d.lk=0:=by omega
 have hd1:(ρ:Int).tmod (d.lk:Int)=(mv:Int):=by rw [Int.tmod_eq_emod_of_nonneg (by omega),hmd,Int.natCast_emod]
 have hd2:(ρ:Int) % (d.lk:Int)=(mv:Int):=by rw [hmd,Int.natCast_emod]
 have hd3:(ρ:Int).tdiv (d.lk:Int)=(q3:Int):=by rw [Int.tdiv_eq_ediv_of_nonneg (by omega),hqd,Int.natCast_ediv]
 have hd4:(ρ:Int) / (d.lk:Int)=(q3:Int):=by rw [hqd,Int.natCast_ediv]
 have hd5:IntKind.i64.wrap (mv:Int)=(mv:Int):=Go.IntWalk.i64_in _ (by omega)
 have hq3l:q3≤ρ:=by rw [hqd];exact Nat.div_le_self _ _
 have hd6:IntKind.i64.wrap (q3:Int)=(q3:Int):=Go.IntWalk.i64_in _ (by omega)
 have HMD:=Lib.hid hmd
 have HQD:=Lib.hid hqd
 clear hmd hqd
 have BYc:∀ W,Below w.heap.size w W→W.cell? ⟨d.BY,ρ,none⟩=some (.slice ro B.length rc):=fun W hb=>by
  have:=(h.b.by_.below hb).1 ρ
  rw [arrOf_get,if_pos hρ,hrv] at this
  exact this
 have BYC:=Lib.hid BYc
 clear BYc h
 go_enter Tryz.func233,Tryz.ntmps233
 go_wp2_with fail
 rw [← hw1]
 have hb1d:Below w.heap.size w w1.drew:=hb1.trans ((below_drew (Below.refl _ _)).mono hb1.size)
 have H1:=Lib.hid (H1.out.below (below_drew (Below.refl _ _)))
 have F1:=Lib.hid (F1.out.below (below_drew (Below.refl _ _)))
 refine wp_region_held_drew (S:=(fun W=>(∀ o,W.cell? ⟨d.K,o,none⟩=(#[.pointer (some ⟨d.M,0,none⟩),.slice (some ⟨d.BY,0,none⟩) d.n d.n,.slice (some ⟨d.VIA,0,none⟩) d.lk d.lk,qv]:Array Value)[o]?)∧(∀ o,W.cell? ⟨w.heap.size,o,none⟩=(#[.int .i64 ρ,.int .i64 x]:Array Value)[o]?)∧W.cell? ⟨d.BY,ρ,none⟩=some (.slice ro B.length rc))) (by kernel_rfl) ⟨H1.out.a.b.kk.1,F1.out.1,BYC.out _ hb1d⟩ (fun hHeld=>?_)
 obtain ⟨wk,hwk⟩:∃ W,W=w1.drew:=⟨_,rfl⟩
 rw [← hwk] at H1 F1 hHeld hb1d ⊢
 clear hwk hw1
 (refine hyes 0 ?_);(refine hyes 1 ?_);(refine hyes 2 ?_);(refine hyes 3 ?_);(refine hyes 4 ?_);(refine hyes 5 ?_);(refine hyes 6 ?_);(refine hyes 7 ?_);(refine hyes 8 ?_);(refine hyes 9 ?_);(try simp only [Act.put,List.setIfInBounds_toArray,List.set])
 refine wpAnyH_done (by kernel_rfl) ?_ _
 have HOW:=Lib.hid (own_below HOW.out hb1d)
 have HOV:=Lib.hid (own_below HOV.out hb1d)
 have HK0:=Lib.hid (Kp.of_below (X:=mkX d qv) hb1d)
 clear hHeld
 go_wp2_with fail
 go_loopw [17] (fun i wr => ∃ (n:Nat) (fs':List (Nat × Nat)) (qv':Value) (st':Nat),n≤B.length∧i=.int .i64 n∧Hid (MkMore wk d rs rv fs k qv wr fs' qv' st')∧Hid (Grow d.lk rs fs fs')∧Hid (∀ j (hj:j < B.length),j < n→LookA d.lk (ρ,x) fs fs' B[j])∧Hid (st'≤st+n * (d.pr+1))) (fun i _=>B.length - (intOf i).toNat)
 case atStart=>exact ⟨0,fs,qv,st,by omega,rfl,Lib.hid (MkMore.start H1.out.a),Lib.hid (Grow.refl _ _ _),Lib.hid (fun j hj h=>absurd h (by omega)),Lib.hid (by omega)⟩
 case round =>
  obtain ⟨n,fs',qv',st',hn,rfl,HM,HG,HJ,HS⟩:=hrel
  by_cases hlt:n < B.length
  ·obtain ⟨b1,o1,c1,he1,hc1,hm1,hb1,hx1⟩:=(Sl.of_own HOW.out).pos (by omega)
   simp only [Value.slice.injEq,true_and] at he1
   obtain ⟨rfl,rfl⟩:=he1
   have hkb:=HM.out.kp.block b1 hb1 (HRX.out b1 rfl)
   obtain ⟨p0,p1,p2,p3,p4,p5⟩:=ru_cell (w:=wr) (fun j u hu=>(World.cell?_of_block (a:=⟨b1,o1+j,none⟩) hkb).trans (hx1 j u hu)) n hlt
   have hbr:b1 < wr.heap.size:=Nat.lt_of_lt_of_le hb1 HM.out.kp.size
   have hmem:B[n]∈byR rs ρ:=by have h1:=List.getElem_mem hlt;have h2:=HB.out;exact h2 ▸ h1
   obtain ⟨hmr,hk1,hka⟩:=byR_mem.1 hmem
   have hst2:st'+1≤100000000000:=by
    have h1:=HS.out
    have h2:n * (d.pr+1)≤100000 * 65:=Nat.mul_le_mul (by omega) (by omega)
    omega
   have HJ2:Hid (∀ fs2,Grow d.lk rs fs' fs2→LookA d.lk (ρ,x) fs fs2 B[n]→∀ j (hj:j < B.length),j < n+1→LookA d.lk (ρ,x) fs fs2 B[j]):=Lib.hid (fun fs2 hg hl j hj hjn=>by
    by_cases e:j=n
    ·subst e;exact hl
    ·exact (HJ.out j hj (by omega)).mono hg.sub)
   have hcases:=okRu_cases (hok _ hmr)
   clear hx1 hkb hmem
   generalize B[n]=r at *
   have HLK:=Lib.hid (fun hl=>HJ2.out fs' (Grow.refl _ _ _) hl)
   obtain ⟨ck,fk,zk⟩:=HM.out.a.b.kk
   obtain ⟨cm,fm,zm⟩:=HM.out.a.b.mm
   have hMK:d.M < d.K:=HM.out.a.ok.o4
   have hMC:d.M < wr.heap.size:=zm
   have hfc:=(HM.out.kp.blk F1.out HBX.out)
   obtain ⟨cf,ff,zf⟩:=hfc
   have hstw:IntKind.i64.wrap ((st':Int)+1)=(st':Int)+1:=Go.IntWalk.i64_in _ (by omega)
   have hmulS:(n+1) * (d.pr+1)=n * (d.pr+1)+(d.pr+1):=Nat.succ_mul _ _
   rcases hcases with ⟨_,_,rfl,_,_⟩ | ⟨h0,a0,rfl,hh,ha⟩ | ⟨h0,a0,v0,rfl,hh,ha,hv⟩ | ⟨h0,a0,b0,rfl,hh,ha,hb⟩
   ·exact absurd rfl hk1
   ·have haρ:a0=ρ:=by
     rcases hka with e | e
     ·exact Int.ofNat.inj e
     ·have:=e.1;simp at this
    subst haρ
    clear HLK
    obtain ⟨w3,hw3⟩:∃ V,V=(wr.setCell ⟨d.M,3,none⟩ (.int .i64 ((st':Int)+1))).alloc (.cells #[.int .i64 2,.int .i64 h0,.int .i64 0,.int .i64 a0,.int .i64 0,.int .i64 0] 151):=⟨_,rfl⟩
    have HM3:=Lib.hid (show MkMore wk d rs rv fs k qv w3 fs' qv' (st'+1) by rw [hw3];exact (HM.out.steps (st'+1)).below ((Below.refl _ _).alloc (Nat.le_refl _) _))
    have hrX:¬ mkX d qv' wr.heap.size:=mkX_far HM.out.a HM.out.a.b.le (fun e=>by have:=(HM.out.a.qge _ e).2;omega)
    have R3:=Lib.hid (show Blk w3 wr.heap.size #[.int .i64 2,.int .i64 h0,.int .i64 0,.int .i64 a0,.int .i64 0,.int .i64 0] by rw [hw3];have:=Blk.new (wr.setCell ⟨d.M,3,none⟩ (.int .i64 ((st':Int)+1))) #[.int .i64 2,.int .i64 h0,.int .i64 0,.int .i64 a0,.int .i64 0,.int .i64 0] 151;simpa using this)
    have F3:=Lib.hid (HM3.out.kp.blk F1.out HBX.out)
    have AD:=Lib.hid (mk_add HM3.out.a h0 x hh hx (by omega))
    have HGA:=Lib.hid (Grow.add (lk:=d.lk) (rs:=rs) (fs:=fs') (r:=h0) (c:=x) (fun E hE h=>hE.incl _ hmr rfl x (h _ (HG.out.sub _ hf))))
    have HLA:=Lib.hid (show LookA d.lk (a0,x) fs (addF fs' h0 x) ⟨2,h0,0,a0,0,0⟩ from ⟨fun _=>addF_mem _ _ _,(fun e=>by simp at e),(fun e=>by simp at e)⟩)
    go_wp2_with fail
    rw [← hw3]
    clear hw3 ck fk zk cm fm zm cf ff zf
    refine AD.out.mono ?_
    rintro e w4 ⟨rfl,qv2,hmm⟩
    have HM4:=Lib.hid (HM3.out.trans hmm)
    clear hmm AD
    go_wp2_with fail
    exact ⟨⟨n+1,_,qv2,st'+1+1,by omega,by go_num,HM4,Lib.hid (HG.out.trans HGA.out),Lib.hid (HJ2.out _ HGA.out HLA.out),Lib.hid (by have:=HS.out;omega)⟩,by simp [intOf];omega⟩
   ·have haρ:a0=ρ:=by
     rcases hka with e | e
     ·exact Int.ofNat.inj e
     ·have:=e.1;simp at this
    subst haρ
    clear HLK
    obtain ⟨q1,hq1⟩:∃ q,q=x * d.lk:=⟨_,rfl⟩
    obtain ⟨q2,hq2⟩:∃ q,q=q1+v0:=⟨_,rfl⟩
    have hq2n:q2 < d.n:=by
     have h1:(x+1) * d.lk≤d.pr * d.lk:=Nat.mul_le_mul_right _ hx
     rw [Nat.succ_mul,← hq1] at h1
     unfold MkI.n
     omega
    have hw1':IntKind.i64.wrap ((x:Int) * (d.lk:Int))=(q1:Int):=by rw [hq1,Int.natCast_mul];exact Go.IntWalk.i64_in _ (by rw [← Int.natCast_mul,← hq1];omega)
    have hw2':IntKind.i64.wrap ((q1:Int)+(v0:Int))=(q2:Int):=by rw [hq2,Int.natCast_add];exact Go.IntWalk.i64_in _ (by omega)
    obtain ⟨w3,hw3⟩:∃ V,V=(wr.setCell ⟨d.M,3,none⟩ (.int .i64 ((st':Int)+1))).alloc (.cells #[.int .i64 3,.int .i64 h0,.int .i64 0,.int .i64 a0,.int .i64 0,.int .i64 v0] 151):=⟨_,rfl⟩
    have HM3:=Lib.hid (show MkMore wk d rs rv fs k qv w3 fs' qv' (st'+1) by rw [hw3];exact (HM.out.steps (st'+1)).below ((Below.refl _ _).alloc (Nat.le_refl _) _))
    have hrX:¬ mkX d qv' wr.heap.size:=mkX_far HM.out.a HM.out.a.b.le (fun e=>by have:=(HM.out.a.qge _ e).2;omega)
    have R3:=Lib.hid (show Blk w3 wr.heap.size #[.int .i64 3,.int .i64 h0,.int .i64 0,.int .i64 a0,.int .i64 0,.int .i64 v0] by rw [hw3];have:=Blk.new (wr.setCell ⟨d.M,3,none⟩ (.int .i64 ((st':Int)+1))) #[.int .i64 3,.int .i64 h0,.int .i64 0,.int .i64 a0,.int .i64 0,.int .i64 v0] 151;simpa using this)
    have F3:=Lib.hid (HM3.out.kp.blk F1.out HBX.out)
    have HLA:=Lib.hid (fun fs2 (ha2:AllOf fs' q2 h0 (colsOf fs' q2) fs2)=>show LookA d.lk (a0,x) fs fs2 ⟨3,h0,0,a0,0,v0⟩ from ⟨(fun e=>by simp at e),(fun e=>by simp at e),fun _ y hy=>ha2.all y (colsOf_mem.2 ⟨by have:=(HH.out.f.rng _ hy).2;dsimp only at this;omega,by rw [hq2,hq1];exact HG.out.sub _ hy⟩)⟩)
    have HGA:=Lib.hid (fun fs2 (ha2:AllOf fs' q2 h0 (colsOf fs' q2) fs2)=>Grow.all (lk:=d.lk) (rs:=rs) ha2 (fun E hE h c hc=>hE.link _ hmr rfl x c (by simp only [Int.toNat_natCast];exact h _ (HG.out.sub _ hf)) (by simp only [Int.toNat_natCast];rw [← hq1,← hq2];exact h _ hc)))
    have HCL:=Lib.hid (colsOf_le HM.out.a.f.rng q2)
    go_wp2_with fail
    rw [← hw3]
    clear hw3 ck fk zk cm fm zm cf ff zf
    have hbd:Below w3.heap.size w3 w3.drew:=below_drew (Below.refl _ _)
    have HMd:=Lib.hid (HM3.out.below hbd)
    have Fd:=Lib.hid (F3.out.below hbd)
    have Rd:=Lib.hid (R3.out.below hbd)
    clear hbd HM3 F3 R3
    refine wp_region_held_drew (S:=(fun W=>W.cell? ⟨d.K,0,none⟩=some (.pointer (some ⟨d.M,0,none⟩))∧W.cell? ⟨d.M,2,none⟩=some (.int .i64 d.lk)∧(∀ o,W.cell? ⟨w.heap.size,o,none⟩=(#[.int .i64 a0,.int .i64 x]:Array Value)[o]?)∧(∀ o,W.cell? ⟨wr.heap.size,o,none⟩=(#[.int .i64 3,.int .i64 h0,.int .i64 0,.int .i64 a0,.int .i64 0,.int .i64 v0]:Array Value)[o]?))) (by kernel_rfl) ⟨HMd.out.a.b.kk.1 0,HMd.out.a.b.mm.1 2,Fd.out.1,Rd.out.1⟩ (fun hHeld=>?_)
    obtain ⟨wd,hwd⟩:∃ W,W=w3.drew:=⟨_,rfl⟩
    rw [← hwd] at HMd Fd Rd hHeld ⊢
    clear hwd
    have AL:=Lib.hid (mk_all HMd.out.a q2 h0 hq2n hh (by omega))
    clear hq1 hq2
    (refine hyes 0 ?_);(refine hyes 1 ?_);(refine hyes 2 ?_);(refine hyes 3 ?_);(refine hyes 4 ?_);(refine hyes 5 ?_);(refine hyes 6 ?_);(refine hyes 7 ?_);(refine hyes 8 ?_);(refine hyes 9 ?_);(refine hyes 10 ?_);(refine hyes 11 ?_);(refine hyes 12 ?_);(refine hyes 13 ?_);(refine hyes 14 ?_);(refine hyes 15 ?_);(try simp only [Act.put,List.setIfInBounds_toArray,List.set])
    (refine held_call 16 rfl (by kernel_rfl) (fun K hK=>?_);go_simp)
    go_at_call 280;refine AL.out.mono ?_;rintro e w5 ⟨rfl,fs2,qv2,st2,hmm,ha2,hs2⟩;have HM5:=Lib.hid (HMd.out.trans hmm);have F5:=Lib.hid (HM5.out.kp.blk F1.out HBX.out);have R5:=Lib.hid (hmm.kp.blk Rd.out hrX)
    (refine hK.out _ _ ⟨HM5.out.a.b.kk.1 0,HM5.out.a.b.mm.1 2,F5.out.1,R5.out.1⟩ (fun hHeld=>?_);clear hK K;(try simp only [Act.put,List.setIfInBounds_toArray,List.set]))
    refine wpAnyH_done (by kernel_rfl) ?_ _
    have HGA2:=Lib.hid (HGA.out fs2 ha2)
    have HLA2:=Lib.hid (HLA.out fs2 ha2)
    have hcl:=HCL.out
    clear hmm AL ha2 HGA HLA HMd Fd Rd
    go_wp2_with fail
    exact ⟨⟨n+1,fs2,qv2,st2,by omega,by go_num,HM5,Lib.hid (HG.out.trans HGA2.out),Lib.hid (HJ2.out _ HGA2.out HLA2.out),Lib.hid (by have:=HS.out;omega)⟩,by simp [intOf];omega⟩
   ·have HA1:=Lib.hid (fun W (h:FamAt W d.F d.W0 d.g0 d.n d.pr fs')=>by have:=fam_Has h (a0:Int) (x:Int);rw [hasF_nat] at this;exact this)
    have HA2:=Lib.hid (fun W (h:FamAt W d.F d.W0 d.g0 d.n d.pr fs')=>by have:=fam_Has h (b0:Int) (x:Int);rw [hasF_nat] at this;exact this)
    obtain ⟨w3,hw3⟩:∃ V,V=(wr.setCell ⟨d.M,3,none⟩ (.int .i64 ((st':Int)+1))).alloc (.cells #[.int .i64 4,.int .i64 h0,.int .i64 0,.int .i64 a0,.int .i64 b0,.int .i64 0] 151):=⟨_,rfl⟩
    have HM3:=Lib.hid (show MkMore wk d rs rv fs k qv w3 fs' qv' (st'+1) by rw [hw3];exact (HM.out.steps (st'+1)).below ((Below.refl _ _).alloc (Nat.le_refl _) _))
    have hrX:¬ mkX d qv' wr.heap.size:=mkX_far HM.out.a HM.out.a.b.le (fun e=>by have:=(HM.out.a.qge _ e).2;omega)
    have R3:=Lib.hid (show Blk w3 wr.heap.size #[.int .i64 4,.int .i64 h0,.int .i64 0,.int .i64 a0,.int .i64 b0,.int .i64 0] by rw [hw3];have:=Blk.new (wr.setCell ⟨d.M,3,none⟩ (.int .i64 ((st':Int)+1))) #[.int .i64 4,.int .i64 h0,.int .i64 0,.int .i64 a0,.int .i64 b0,.int .i64 0] 151;simpa using this)
    have F3:=Lib.hid (HM3.out.kp.blk F1.out HBX.out)
    go_wp2_with fail
    rw [← hw3]
    clear hw3 ck fk zk cm fm zm cf ff zf
    have hbd:Below w3.heap.size w3 w3.drew:=below_drew (Below.refl _ _)
    have HMd:=Lib.hid (HM3.out.below hbd)
    have Fd:=Lib.hid (F3.out.below hbd)
    have Rd:=Lib.hid (R3.out.below hbd)
    clear hbd HM3 F3 R3
    refine wp_region_held_drew (S:=(fun W=>W.cell? ⟨d.K,0,none⟩=some (.pointer (some ⟨d.M,0,none⟩))∧W.cell? ⟨d.M,0,none⟩=some (.pointer (some ⟨d.F,0,none⟩))∧(∀ o,W.cell? ⟨w.heap.size,o,none⟩=(#[.int .i64 ρ,.int .i64 x]:Array Value)[o]?)∧(∀ o,W.cell? ⟨wr.heap.size,o,none⟩=(#[.int .i64 4,.int .i64 h0,.int .i64 0,.int .i64 a0,.int .i64 b0,.int .i64 0]:Array Value)[o]?))) (by kernel_rfl) ⟨HMd.out.a.b.kk.1 0,HMd.out.a.b.mm.1 0,Fd.out.1,Rd.out.1⟩ (fun hHeld=>?_)
    obtain ⟨wd,hwd⟩:∃ W,W=w3.drew:=⟨_,rfl⟩
    rw [← hwd] at HMd Fd Rd hHeld ⊢
    clear hwd
    by_cases m1:(a0,x)∈fs'
    ·rw [decide_eq_true m1] at HA1
     by_cases m2:(b0,x)∈fs'
     ·rw [decide_eq_true m2] at HA2
      have AD:=Lib.hid (mk_add HMd.out.a h0 x hh hx (by omega))
      have HGA:=Lib.hid (Grow.add (lk:=d.lk) (rs:=rs) (fs:=fs') (r:=h0) (c:=x) (fun E hE h=>hE.both _ hmr rfl x (h _ m1) (h _ m2)))
      have HLA:=Lib.hid (show LookA d.lk (ρ,x) fs (addF fs' h0 x) ⟨4,h0,0,a0,b0,0⟩ from ⟨(fun e=>by simp at e),fun _ _ _=>addF_mem _ _ _,(fun e=>by simp at e)⟩)
      clear m1 m2 HLK
      (refine hyes 0 ?_);(refine hyes 1 ?_);(refine hyes 2 ?_);(refine hyes 3 ?_);(refine hyes 4 ?_);(refine hyes 5 ?_);(refine hyes 6 ?_);(refine hyes 7 ?_);(refine hyes 8 ?_);(refine hyes 9 ?_);(refine hyes 10 ?_);(try simp only [Act.put,List.setIfInBounds_toArray,List.set])
      (refine held_call 11 rfl (by kernel_rfl) (fun K hK=>?_);go_simp)
      go_at_call 201;refine (HA1.out _ HMd.out.a.f).mono ?_;rintro e wq ⟨rfl,rfl⟩
      (refine hK.out _ _ ⟨HMd.out.a.b.kk.1 0,HMd.out.a.b.mm.1 0,Fd.out.1,Rd.out.1⟩ (fun hHeld=>?_);clear hK K;(try simp only [Act.put,List.setIfInBounds_toArray,List.set]))
      (refine hyes 12 ?_);(refine hyes 13 ?_);(refine hyes 14 ?_);(refine hyes 15 ?_);(refine hyes 16 ?_);(refine hyes 17 ?_);(refine hyes 18 ?_);(refine hyes 19 ?_);(refine hyes 20 ?_);(refine hyes 21 ?_);(refine hyes 22 ?_);(refine hyes 23 ?_);(try simp only [Act.put,List.setIfInBounds_toArray,List.set])
      (refine held_call 24 rfl (by kernel_rfl) (fun K hK=>?_);go_simp)
      go_at_call 201;refine (HA2.out _ HMd.out.a.f).mono ?_;rintro e wq ⟨rfl,rfl⟩
      (refine hK.out _ _ ⟨HMd.out.a.b.kk.1 0,HMd.out.a.b.mm.1 0,Fd.out.1,Rd.out.1⟩ (fun hHeld=>?_);clear hK K;(try simp only [Act.put,List.setIfInBounds_toArray,List.set]))
      (refine hyes 25 ?_);(try simp only [Act.put,List.setIfInBounds_toArray,List.set])
      refine wpAnyH_done (by kernel_rfl) ?_ _
      obtain ⟨cf,ff,zf⟩:=Fd.out
      obtain ⟨cr,fr,zr⟩:=Rd.out
      clear ff fr hHeld
      go_wp2_with fail
      clear cf zf cr zr
      refine AD.out.mono ?_
      rintro e w4 ⟨rfl,qv2,hmm⟩
      have HM4:=Lib.hid (HMd.out.trans hmm)
      clear hmm AD
      go_wp2_with fail
      exact ⟨⟨n+1,_,qv2,st'+1+1,by omega,by go_num,HM4,Lib.hid (HG.out.trans HGA.out),Lib.hid (HJ2.out _ HGA.out HLA.out),Lib.hid (by have:=HS.out;omega)⟩,by simp [intOf];omega⟩
     ·rw [decide_eq_false m2] at HA2
      have HLA:=Lib.hid (show LookA d.lk (ρ,x) fs fs' ⟨4,h0,0,a0,b0,0⟩ from ⟨(fun e=>by simp at e),fun _ _ hb=>absurd (HG.out.sub _ hb) m2,(fun e=>by simp at e)⟩)
      clear m1 m2
      (refine hyes 0 ?_);(refine hyes 1 ?_);(refine hyes 2 ?_);(refine hyes 3 ?_);(refine hyes 4 ?_);(refine hyes 5 ?_);(refine hyes 6 ?_);(refine hyes 7 ?_);(refine hyes 8 ?_);(refine hyes 9 ?_);(refine hyes 10 ?_);(try simp only [Act.put,List.setIfInBounds_toArray,List.set])
      (refine held_call 11 rfl (by kernel_rfl) (fun K hK=>?_);go_simp)
      go_at_call 201;refine (HA1.out _ HMd.out.a.f).mono ?_;rintro e wq ⟨rfl,rfl⟩
      (refine hK.out _ _ ⟨HMd.out.a.b.kk.1 0,HMd.out.a.b.mm.1 0,Fd.out.1,Rd.out.1⟩ (fun hHeld=>?_);clear hK K;(try simp only [Act.put,List.setIfInBounds_toArray,List.set]))
      (refine hyes 12 ?_);(refine hyes 13 ?_);(refine hyes 14 ?_);(refine hyes 15 ?_);(refine hyes 16 ?_);(refine hyes 17 ?_);(refine hyes 18 ?_);(refine hyes 19 ?_);(refine hyes 20 ?_);(refine hyes 21 ?_);(refine hyes 22 ?_);(refine hyes 23 ?_);(try simp only [Act.put,List.setIfInBounds_toArray,List.set])
      (refine held_call 24 rfl (by kernel_rfl) (fun K hK=>?_);go_simp)
      go_at_call 201;refine (HA2.out _ HMd.out.a.f).mono ?_;rintro e wq ⟨rfl,rfl⟩
      (refine hK.out _ _ ⟨HMd.out.a.b.kk.1 0,HMd.out.a.b.mm.1 0,Fd.out.1,Rd.out.1⟩ (fun hHeld=>?_);clear hK K;(try simp only [Act.put,List.setIfInBounds_toArray,List.set]))
      (refine hyes 25 ?_);(try simp only [Act.put,List.setIfInBounds_toArray,List.set])
      refine wpAnyH_done (by kernel_rfl) ?_ _
      go_wp2_with fail
      exact ⟨⟨n+1,fs',qv',st'+1,by omega,by go_num,HMd,HG,Lib.hid (HLK.out HLA.out),Lib.hid (by have:=HS.out;omega)⟩,by simp [intOf];omega⟩
    ·rw [decide_eq_false m1] at HA1
     have HLA:=Lib.hid (show LookA d.lk (ρ,x) fs fs' ⟨4,h0,0,a0,b0,0⟩ from ⟨(fun e=>by simp at e),fun _ ha _=>absurd (HG.out.sub _ ha) m1,(fun e=>by simp at e)⟩)
     clear m1
     (refine hyes 0 ?_);(refine hyes 1 ?_);(refine hyes 2 ?_);(refine hyes 3 ?_);(refine hyes 4 ?_);(refine hyes 5 ?_);(refine hyes 6 ?_);(refine hyes 7 ?_);(refine hyes 8 ?_);(refine hyes 9 ?_);(refine hyes 10 ?_);(try simp only [Act.put,List.setIfInBounds_toArray,List.set])
     (refine held_call 11 rfl (by kernel_rfl) (fun K hK=>?_);go_simp)
     go_at_call 201;refine (HA1.out _ HMd.out.a.f).mono ?_;rintro e wq ⟨rfl,rfl⟩
     (refine hK.out _ _ ⟨HMd.out.a.b.kk.1 0,HMd.out.a.b.mm.1 0,Fd.out.1,Rd.out.1⟩ (fun hHeld=>?_);clear hK K;(try simp only [Act.put,List.setIfInBounds_toArray,List.set]))
     (refine hyes 12 ?_);(try simp only [Act.put,List.setIfInBounds_toArray,List.set])
     (refine hno 13 ?_);(refine hno 14 ?_);(refine hno 15 ?_);(refine hno 16 ?_);(refine hno 17 ?_);(refine hno 18 ?_);(refine hno 19 ?_);(refine hno 20 ?_);(refine hno 21 ?_);(refine hno 22 ?_);(refine hno 23 ?_);(refine hno 24 ?_);(try simp only [Act.put,List.setIfInBounds_toArray,List.set])
     (refine hyes 25 ?_);(try simp only [Act.put,List.setIfInBounds_toArray,List.set])
     refine wpAnyH_done (by kernel_rfl) ?_ _
     go_wp2_with fail
     exact ⟨⟨n+1,fs',qv',st'+1,by omega,by go_num,HMd,HG,Lib.hid (HLK.out HLA.out),Lib.hid (by have:=HS.out;omega)⟩,by simp [intOf];omega⟩
  ·have HLB:=Lib.hid (show ∀ j (hj:j < B.length),LookA d.lk (ρ,x) fs fs' B[j] from fun j hj=>HJ.out j hj (by omega))
   have HS1:=Lib.hid (show st'≤st+B.length * (d.pr+1) by have h1:=HS.out;have h2:n=B.length:=(by omega);rw [h2] at h1;exact h1)
   have hbd:Below wr.heap.size wr wr.drew:=below_drew (Below.refl _ _)
   have hVc:wr.drew.cell? ⟨d.VIA,mv,none⟩=some (.slice vo V.length vc):=by
    have:=(HM.out.a.b.via.below hbd).1 mv
    rw [arrOf_get,if_pos hmv,HVR.out] at this
    exact this
   have HMd:=Lib.hid (HM.out.below hbd)
   have Fd:=Lib.hid ((HM.out.kp.blk F1.out HBX.out).below hbd)
   clear hbd HJ HS
   go_wp2_with fail
   refine wp_region_held_drew (S:=(fun W=>(∀ o,W.cell? ⟨d.K,o,none⟩=(#[.pointer (some ⟨d.M,0,none⟩),.slice (some ⟨d.BY,0,none⟩) d.n d.n,.slice (some ⟨d.VIA,0,none⟩) d.lk d.lk,qv']:Array Value)[o]?)∧W.cell? ⟨d.M,2,none⟩=some (.int .i64 d.lk)∧(∀ o,W.cell? ⟨w.heap.size,o,none⟩=(#[.int .i64 ρ,.int .i64 x]:Array Value)[o]?)∧W.cell? ⟨d.VIA,mv,none⟩=some (.slice vo V.length vc))) (by kernel_rfl) ⟨HMd.out.a.b.kk.1,HMd.out.a.b.mm.1 2,Fd.out.1,hVc⟩ (fun hHeld=>?_)
   obtain ⟨wd,hwd⟩:∃ W,W=wr.drew:=⟨_,rfl⟩
   rw [← hwd] at HMd Fd hHeld hVc ⊢
   clear hwd HM hlt hn
   (refine hyes 0 ?_);(refine hyes 1 ?_);(refine hyes 2 ?_);(refine hyes 3 ?_);(refine hyes 4 ?_);(refine hyes 5 ?_);(refine hyes 6 ?_);(refine hyes 7 ?_);(refine hyes 8 ?_);(refine hyes 9 ?_);(refine hyes 10 ?_);(refine hyes 11 ?_);(refine hyes 12 ?_);(refine hyes 13 ?_);(refine hyes 14 ?_);(refine hyes 15 ?_);(refine hyes 16 ?_);(refine hyes 17 ?_);(try simp only [Act.put,List.setIfInBounds_toArray,List.set])
   refine wpAnyH_done (by kernel_rfl) ?_ _
   clear hVc
   go_wp2_with fail
   go_loopw [112] (fun i wr => ∃ (n:Nat) (fs2:List (Nat × Nat)) (qv2:Value) (st2:Nat),n≤V.length∧i=.int .i64 n∧Hid (MkMore wk d rs rv fs k qv wr fs2 qv2 st2)∧Hid (Grow d.lk rs fs fs2)∧Hid (∀ j (hj:j < B.length),LookA d.lk (ρ,x) fs fs2 B[j])∧Hid (∀ j (hj:j < V.length),j < n→(V[j].a.toNat,q3)∈fs→(V[j].h.toNat,x)∈fs2)∧Hid (st2≤st+B.length * (d.pr+1)+n * 2)) (fun i _=>V.length - (intOf i).toNat)
   case atStart=>exact ⟨0,fs',qv',st',by omega,rfl,HMd,HG,HLB,Lib.hid (fun j hj h=>absurd h (by omega)),Lib.hid (by have:=HS1.out;omega)⟩
   case round =>
    clear HMd Fd HG HLB HS1
    obtain ⟨n,fs',qv',st',hn,rfl,HM,HG,HJ,HJV,HS⟩:=hrel
    by_cases hlt:n < V.length
    ·obtain ⟨b1,o1,c1,he1,hc1,hm1,hb1,hx1⟩:=(Sl.of_own HOV.out).pos (by omega)
     simp only [Value.slice.injEq,true_and] at he1
     obtain ⟨rfl,rfl⟩:=he1
     have hkb:=HM.out.kp.block b1 hb1 (HVX.out b1 rfl)
     obtain ⟨p0,p1,p2,p3,p4,p5⟩:=ru_cell (w:=wr) (fun j u hu=>(World.cell?_of_block (a:=⟨b1,o1+j,none⟩) hkb).trans (hx1 j u hu)) n hlt
     have hbr:b1 < wr.heap.size:=Nat.lt_of_lt_of_le hb1 HM.out.kp.size
     have hmem:V[n]∈viaR rs mv:=by have h1:=List.getElem_mem hlt;have h2:=HV.out;exact h2 ▸ h1
     obtain ⟨hmr,hk3,hvia⟩:=viaR_mem.1 hmem
     have hst2:st'+1≤100000000000:=by
      have h1:=HS.out
      have h2:B.length * (d.pr+1)≤100000 * 65:=Nat.mul_le_mul (by omega) (by omega)
      omega
     have HJ2:Hid (∀ fs2,Grow d.lk rs fs' fs2→((V[n].a.toNat,q3)∈fs→(V[n].h.toNat,x)∈fs2)→∀ j (hj:j < V.length),j < n+1→(V[j].a.toNat,q3)∈fs→(V[j].h.toNat,x)∈fs2):=Lib.hid (fun fs2 hg hl j hj hjn hin=>by
      by_cases e:j=n
      ·subst e;exact hl hin
      ·exact hg.sub _ (HJV.out j hj (by omega) hin))
     have hcases:=okRu_cases (hok _ hmr)
     clear hx1 hkb hmem
     generalize V[n]=r at *
     obtain ⟨ck,fk,zk⟩:=HM.out.a.b.kk
     obtain ⟨cm,fm,zm⟩:=HM.out.a.b.mm
     have hMK:d.M < d.K:=HM.out.a.ok.o4
     have hMC:d.M < wr.heap.size:=zm
     obtain ⟨cf,ff,zf⟩:=(HM.out.kp.blk F1.out HBX.out)
     have hstw:IntKind.i64.wrap ((st':Int)+1)=(st':Int)+1:=Go.IntWalk.i64_in _ (by omega)
     rcases hcases with ⟨_,_,rfl,_,_⟩ | ⟨h0,a0,rfl,hh,ha⟩ | ⟨h0,a0,v0,rfl,hh,ha,hv⟩ | ⟨h0,a0,b0,rfl,hh,ha,hb⟩
     ·simp at hk3
     ·simp at hk3
     ·have hv0:=Lib.hid (show v0=mv from Int.ofNat.inj hvia)
      clear hvia hk3
      have HA1:=Lib.hid (fun W (h:FamAt W d.F d.W0 d.g0 d.n d.pr fs')=>by have:=fam_Has h (a0:Int) (q3:Int);rw [hasF_nat] at this;exact this)
      obtain ⟨w3,hw3⟩:∃ V,V=(wr.setCell ⟨d.M,3,none⟩ (.int .i64 ((st':Int)+1))).alloc (.cells #[.int .i64 3,.int .i64 h0,.int .i64 0,.int .i64 a0,.int .i64 0,.int .i64 v0] 151):=⟨_,rfl⟩
      have HM3:=Lib.hid (show MkMore wk d rs rv fs k qv w3 fs' qv' (st'+1) by rw [hw3];exact (HM.out.steps (st'+1)).below ((Below.refl _ _).alloc (Nat.le_refl _) _))
      have hrX:¬ mkX d qv' wr.heap.size:=mkX_far HM.out.a HM.out.a.b.le (fun e=>by have:=(HM.out.a.qge _ e).2;omega)
      have R3:=Lib.hid (show Blk w3 wr.heap.size #[.int .i64 3,.int .i64 h0,.int .i64 0,.int .i64 a0,.int .i64 0,.int .i64 v0] by rw [hw3];have:=Blk.new (wr.setCell ⟨d.M,3,none⟩ (.int .i64 ((st':Int)+1))) #[.int .i64 3,.int .i64 h0,.int .i64 0,.int .i64 a0,.int .i64 0,.int .i64 v0] 151;simpa using this)
      have F3:=Lib.hid (HM3.out.kp.blk F1.out HBX.out)
      go_wp2_with fail
      rw [← hw3]
      clear hw3 ck fk zk cm fm zm cf ff zf
      have hbd:Below w3.heap.size w3 w3.drew:=below_drew (Below.refl _ _)
      have HMd:=Lib.hid (HM3.out.below hbd)
      have Fd:=Lib.hid (F3.out.below hbd)
      have Rd:=Lib.hid (R3.out.below hbd)
      clear hbd HM3 F3 R3
      refine wp_region_held_drew (S:=(fun W=>W.cell? ⟨d.K,0,none⟩=some (.pointer (some ⟨d.M,0,none⟩))∧W.cell? ⟨d.M,0,none⟩=some (.pointer (some ⟨d.F,0,none⟩))∧W.cell? ⟨d.M,2,none⟩=some (.int .i64 d.lk)∧(∀ o,W.cell? ⟨w.heap.size,o,none⟩=(#[.int .i64 ρ,.int .i64 x]:Array Value)[o]?)∧(∀ o,W.cell? ⟨wr.heap.size,o,none⟩=(#[.int .i64 3,.int .i64 h0,.int .i64 0,.int .i64 a0,.int .i64 0,.int .i64 v0]:Array Value)[o]?))) (by kernel_rfl) ⟨HMd.out.a.b.kk.1 0,HMd.out.a.b.mm.1 0,HMd.out.a.b.mm.1 2,Fd.out.1,Rd.out.1⟩ (fun hHeld=>?_)
      obtain ⟨wd,hwd⟩:∃ W,W=w3.drew:=⟨_,rfl⟩
      rw [← hwd] at HMd Fd Rd hHeld ⊢
      clear hwd
      by_cases m1:(a0,q3)∈fs'
      ·rw [decide_eq_true m1] at HA1
       have AD:=Lib.hid (mk_add HMd.out.a h0 x hh hx (by omega))
       have HGA:=Lib.hid (Grow.add (lk:=d.lk) (rs:=rs) (fs:=fs') (r:=h0) (c:=x) (fun E hE h=>hE.link _ hmr rfl q3 x (h _ m1) (by simp only [Int.toNat_natCast];rw [hv0.out,HQM.out];exact h _ (HG.out.sub _ hf))))
       clear m1
       (refine hyes 0 ?_);(refine hyes 1 ?_);(refine hyes 2 ?_);(refine hyes 3 ?_);(refine hyes 4 ?_);(refine hyes 5 ?_);(refine hyes 6 ?_);(refine hyes 7 ?_);(refine hyes 8 ?_);(refine hyes 9 ?_);(refine hyes 10 ?_);(refine hyes 11 ?_);(refine hyes 12 ?_);(refine hyes 13 ?_);(refine hyes 14 ?_);(refine hyes 15 ?_);(refine hyes 16 ?_);(refine hyes 17 ?_);(refine hyes 18 ?_);(try simp only [Act.put,List.setIfInBounds_toArray,List.set])
       (refine held_call 19 rfl (by kernel_rfl) (fun K hK=>?_);go_simp)
       go_at_call 201;refine (HA1.out _ HMd.out.a.f).mono ?_;rintro e wq ⟨rfl,rfl⟩
       (refine hK.out _ _ ⟨HMd.out.a.b.kk.1 0,HMd.out.a.b.mm.1 0,HMd.out.a.b.mm.1 2,Fd.out.1,Rd.out.1⟩ (fun hHeld=>?_);clear hK K;(try simp only [Act.put,List.setIfInBounds_toArray,List.set]))
       refine wpAnyH_done (by kernel_rfl) ?_ _
       obtain ⟨cf,ff,zf⟩:=Fd.out
       obtain ⟨cr,fr,zr⟩:=Rd.out
       clear ff fr hHeld
       go_wp2_with fail
       clear cf zf cr zr
       refine AD.out.mono ?_
       rintro e w4 ⟨rfl,qv2,hmm⟩
       have HM4:=Lib.hid (HMd.out.trans hmm)
       clear hmm AD
       go_wp2_with fail
       exact ⟨⟨n+1,_,qv2,st'+1+1,by omega,by go_num,HM4,Lib.hid (HG.out.trans HGA.out),Lib.hid (fun j hj=>(HJ.out j hj).mono HGA.out.sub),Lib.hid (HJ2.out _ HGA.out (fun _=>addF_mem _ _ _)),Lib.hid (by have:=HS.out;omega)⟩,by simp [intOf];omega⟩
      ·rw [decide_eq_false m1] at HA1
       have HLA:=Lib.hid (HJ2.out fs' (Grow.refl _ _ _) (fun hin=>absurd (HG.out.sub _ hin) m1))
       clear m1
       (refine hyes 0 ?_);(refine hyes 1 ?_);(refine hyes 2 ?_);(refine hyes 3 ?_);(refine hyes 4 ?_);(refine hyes 5 ?_);(refine hyes 6 ?_);(refine hyes 7 ?_);(refine hyes 8 ?_);(refine hyes 9 ?_);(refine hyes 10 ?_);(refine hyes 11 ?_);(refine hyes 12 ?_);(refine hyes 13 ?_);(refine hyes 14 ?_);(refine hyes 15 ?_);(refine hyes 16 ?_);(refine hyes 17 ?_);(refine hyes 18 ?_);(try simp only [Act.put,List.setIfInBounds_toArray,List.set])
       (refine held_call 19 rfl (by kernel_rfl) (fun K hK=>?_);go_simp)
       go_at_call 201;refine (HA1.out _ HMd.out.a.f).mono ?_;rintro e wq ⟨rfl,rfl⟩
       (refine hK.out _ _ ⟨HMd.out.a.b.kk.1 0,HMd.out.a.b.mm.1 0,HMd.out.a.b.mm.1 2,Fd.out.1,Rd.out.1⟩ (fun hHeld=>?_);clear hK K;(try simp only [Act.put,List.setIfInBounds_toArray,List.set]))
       refine wpAnyH_done (by kernel_rfl) ?_ _
       go_wp2_with fail
       exact ⟨⟨n+1,fs',qv',st'+1,by omega,by go_num,HMd,HG,HJ,HLA,Lib.hid (by have:=HS.out;omega)⟩,by simp [intOf];omega⟩
     ·simp at hk3
    ·have HJA:=Lib.hid (show ∀ j (hj:j < V.length),(V[j].a.toNat,q3)∈fs→(V[j].h.toNat,x)∈fs' from fun j hj=>HJV.out j hj (by omega))
     go_wp2
     go_end0
     refine ⟨rfl,fs',qv',st',⟨HM.out.a,HK0.out.trans HM.out.kp (fun _ _ h=>h),?_⟩,HG.out,⟨?_,?_,?_,?_⟩,?_⟩
     ·rcases HM.out.qn with h | ⟨y,hy,hl⟩
      ·exact .inl h
      ·exact .inr ⟨y,hy,Nat.le_trans HK0.out.size hl⟩
     ·intro r hr hk2 hra
      obtain ⟨j,hj,e⟩:=HIN.out r hr (by omega) (.inl hra)
      have:=(HJ.out j hj).incl
      rw [e] at this
      exact this hk2
     ·intro r hr hk4 hra h1 h2
      obtain ⟨j,hj,e⟩:=HIN.out r hr (by omega) (hra.elim .inl (fun h=>.inr ⟨hk4,h⟩))
      have:=(HJ.out j hj).both
      rw [e] at this
      exact this hk4 h1 h2
     ·intro r hr hk3 hra y hy
      obtain ⟨j,hj,e⟩:=HIN.out r hr (by omega) (.inl hra)
      have:=(HJ.out j hj).link
      rw [e] at this
      exact this hk3 y hy
     ·intro r hr hk3 hrv h1
      obtain ⟨j,hj,e⟩:=HIV.out r hr hk3 (hrv.trans HMD.out.symm)
      have:=HJA.out j hj
      rw [e] at this
      exact this (by rw [HQD.out];exact h1)
     ·have h1:=HS.out
      have h2:B.length * (d.pr+1)≤rs.length * (d.pr+1):=Nat.mul_le_mul_right _ hBlen
      omega
end
end Go.Proofs.YtilgbodgmkmjjaaGreatDoor
