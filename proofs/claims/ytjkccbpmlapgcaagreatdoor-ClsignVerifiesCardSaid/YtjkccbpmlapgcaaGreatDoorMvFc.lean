/- The law ClsignVerifies: the walk. -/
import Derived.Test.YtjkccbpmlapgcaaGreatDoorMvFa
import Derived.Test.YtjkccbpmlapgcaaGreatDoorMvKV
import Derived.Test.YtjkccbpmlapgcaaGreatDoorMvPD
namespace Go.Proofs.YtjkccbpmlapgcaaGreatDoor
open Go.RowKit
set_option maxRecDepth 100000
set_option linter.unusedVariables false
set_option maxHeartbeats 8000000
structure VfB (w : World) (ss : Array Value) (A1 AR : Option Addr) (sA sE sV : ByteArray) (rs l1 : List ByteArray) (W : World) : Prop where
 set : W.heap[w.heap.size]?=some (.cells ss 37 (0,0))
 sig : W.heap[w.heap.size+1]?=some (.cells #[.string sA,.string sE,.string sV] 48 (0,0))
 r0 : SLs W w.heap.size AR rs
 r1 : SLs W w.heap.size A1 l1
 bel : Below w.heap.size w W
section
variable {w W W' : World} {ss : Array Value} {A1 AR : Option Addr} {sA sE sV : ByteArray} {rs l1 : List ByteArray}
theorem VfB.next (k : VfB w ss A1 AR sA sE sV rs l1 W) (hb : Below W.heap.size W W') : VfB w ss A1 AR sA sE sV rs l1 W':=by
 have l:=(Array.getElem?_eq_some_iff.1 k.sig).1
 exact ⟨(hb.block _ (by omega)).trans k.set,(hb.block _ l).trans k.sig,k.r0.below (hb.mono k.bel.size),k.r1.below (hb.mono k.bel.size),k.bel.trans (hb.mono k.bel.size)⟩
theorem VfB.alloc (k : VfB w ss A1 AR sA sE sV rs l1 W) (ob : Obj) : VfB w ss A1 AR sA sE sV rs l1 (W.alloc ob):=k.next ((Below.refl _ _).alloc (Nat.le_refl _) _)
theorem VfB.drew (k : VfB w ss A1 AR sA sE sV rs l1 W) : VfB w ss A1 AR sA sE sV rs l1 W.drew:=k.next ((Below.refl _ _).drew)
theorem VfB.cells (k : VfB w ss A1 AR sA sE sV rs l1 W) : W.cell? ⟨w.heap.size+1,0,none⟩=some (.string sA)∧W.cell? ⟨w.heap.size+1,1,none⟩=some (.string sE)∧W.cell? ⟨w.heap.size+1,2,none⟩=some (.string sV):=by
 refine ⟨?_,?_,?_⟩<;>simp [World.cell?,k.sig]
theorem VfB.start (w : World) (h0 : SLs w w.heap.size AR rs) (h1 : SLs w w.heap.size A1 l1) : VfB w ss A1 AR sA sE sV rs l1 ((w.alloc (.cells ss 37)).alloc (.cells #[.string sA,.string sE,.string sV] 48)):=by
 have hb : Below w.heap.size w ((w.alloc (.cells ss 37)).alloc (.cells #[.string sA,.string sE,.string sV] 48)):=((Below.refl _ _).alloc (Nat.le_refl _) _).alloc (by simp) _
 have e0:=heap_alloc_new w (.cells ss 37)
 have e1:=heap_alloc_new (w.alloc (.cells ss 37)) (.cells #[.string sA,.string sE,.string sV] 48)
 simp only [World.size_alloc] at e1
 exact ⟨(heap_alloc_old _ _ (by simp)).trans e0,e1,h0.below hb,h1.below hb,hb⟩
end
theorem law_verifies (ch sl mm mo mg mh wm wo wg wh se at_ ha el es bl ma nm m o z s u h P Q sA sE sV : ByteArray) (AR A1 : Option Addr) (nR cR n1 c1 : Nat) (rs l1 : List ByteArray) (w : World)
  (hnR : rs.length=nR) (hmR : nR≤maxLen) (hn1 : l1.length=n1) (hm1 : n1≤maxLen) (h0 : SLs w w.heap.size AR rs) (h1 : SLs w w.heap.size A1 l1) (hT : Tab w) (hT10 : Tab10 w) :
  Calls Tryz.prog 4 #[.agg #[.string ch,.string sl,.string mm,.string mo,.string mg,.string mh,.string wm,.string wo,.string wg,.string wh,.string se,.string at_,.string ha,.string el,.string es,.string bl,.string ma,.string nm,.string m,.string o,.string z,.string s,.slice AR nR cR,.string u,.string h,.string P,.string Q],.slice A1 n1 c1,.agg #[.string sA,.string sE,.string sV]] w fun e w'=>e=.returned (.bool true)∧Below w.heap.size w w':=by
 have KF:=Lib.hid (fun wq hs hz=>law30_few ch sl mm mo mg mh wm wo wg wh se at_ ha el es bl ma nm m o z s u h P Q AR nR cR w.heap.size rs wq hnR hmR hs hz)
 have KL1:=Lib.hid (fun wq hs=>law30_list l1 A1 n1 c1 w.heap.size wq hn1 hm1 hs)
 have KSH : Hid (∀ (wq : World) A1 b1,SLs wq b1 A1 [sA,sE,sV]→Calls Tryz.prog 10 #[.int .i64 16,.slice A1 3 3] wq fun e w'=>e=.returned (.bool (shS 16 [sA,sE,sV]))∧wq=w'):=Lib.hid (fun wq A1 b1 h1=>law30_short 16 [sA,sE,sV] A1 3 3 b1 wq (by omega) rfl (by unfold maxLen;omega) h1)
 have KAW:=Lib.hid (fun wq (hb : Below w.heap.size w wq)=>law30_awake wq (hT.below hb) (hT10.below hb))
 have HS:=Lib.hid (VfB.start (ss:=#[.string ch,.string sl,.string mm,.string mo,.string mg,.string mh,.string wm,.string wo,.string wg,.string wh,.string se,.string at_,.string ha,.string el,.string es,.string bl,.string ma,.string nm,.string m,.string o,.string z,.string s,.slice AR nR cR,.string u,.string h,.string P,.string Q]) (sA:=sA) (sE:=sE) (sV:=sV) w h0 h1)
 obtain ⟨W0,hW0⟩ : ∃ W0,(w.alloc (.cells #[.string ch,.string sl,.string mm,.string mo,.string mg,.string mh,.string wm,.string wo,.string wg,.string wh,.string se,.string at_,.string ha,.string el,.string es,.string bl,.string ma,.string nm,.string m,.string o,.string z,.string s,.slice AR nR cR,.string u,.string h,.string P,.string Q] 37)).alloc (.cells #[.string sA,.string sE,.string sV] 48)=W0:=⟨_,rfl⟩
 rw [hW0] at HS
 obtain ⟨v0,v1,v2⟩:=HS.out.cells
 have hff:=@few_facts ch sl mm mo mg mh wm wo wg wh se at_ ha el es bl ma nm m o z s u h P Q rs
 have hl1:=@list_len l1
 obtain ⟨b1,hb1⟩ : ∃ b1,setFew ch sl mm mo mg mh wm wo wg wh se at_ ha el es bl ma nm m o z s u h P Q rs=b1:=⟨_,rfl⟩
 obtain ⟨b2,hb2⟩ : ∃ b2,listS l1=b2:=⟨_,rfl⟩
 obtain ⟨b4,hb4⟩ : ∃ b4,shS 16 [sA,sE,sV]=b4:=⟨_,rfl⟩
 simp only [hb1] at KF
 rw [hb1] at hff
 simp only [hb2] at KL1
 rw [hb2] at hl1
 simp only [hb4] at KSH
 have HFF:=Lib.hid hff
 have HLL:=Lib.hid hl1
 have HNN:=Lib.hid (And.intro hnR hn1)
 have HT:=Lib.hid hT
 clear hb1 hb2 hb4 hff hl1 hnR hn1 hmR hm1 h0 h1 hT hT10
 cases b1
 · go_enter Tryz.func4, Tryz.ntmps4
   go_wp2_with (first | (go_at_call 5;(with_reducible refine (KF.out _ HS.out.r0 HS.out.bel.size).mono ?_);rintro e wn ⟨rfl,hb⟩;have HY:=Lib.hid (HS.out.next hb);obtain ⟨v0,v1,v2⟩:=HY.out.cells;clear hb HS;have HS:=HY;clear HY) | (go_at_call 7;(with_reducible refine (KAW.out _ HS.out.bel).mono ?_);rintro e wn ⟨rfl,hb⟩;have HY:=Lib.hid (HS.out.next hb);obtain ⟨v0,v1,v2⟩:=HY.out.cells;clear hb HS;have HS:=HY;clear HY) | (with_reducible refine wpList_look ?_;refine wpList_load_row rfl 37 _ rfl _ rfl 37 #[.string ch,.string sl,.string mm,.string mo,.string mg,.string mh,.string wm,.string wo,.string wg,.string wh,.string se,.string at_,.string ha,.string el,.string es,.string bl,.string ma,.string nm,.string m,.string o,.string z,.string s,.slice AR nR cR,.string u,.string h,.string P,.string Q] (0,0) _ HS.out.set Tryz.underlying37 rfl (c27.trans rfl) ?_))
   go_ret
   exact ⟨rfl,HS.out.bel⟩
 cases b2
 · go_enter Tryz.func4, Tryz.ntmps4
   go_wp2_with (first | (go_at_call 5;(with_reducible refine (KF.out _ HS.out.r0 HS.out.bel.size).mono ?_);rintro e wn ⟨rfl,hb⟩;have HY:=Lib.hid (HS.out.next hb);obtain ⟨v0,v1,v2⟩:=HY.out.cells;clear hb HS;have HS:=HY;clear HY) | (go_at_call 6;(with_reducible refine (KL1.out _ HS.out.r1).mono ?_);rintro e wn ⟨rfl,rfl⟩) | (go_at_call 7;(with_reducible refine (KAW.out _ HS.out.bel).mono ?_);rintro e wn ⟨rfl,hb⟩;have HY:=Lib.hid (HS.out.next hb);obtain ⟨v0,v1,v2⟩:=HY.out.cells;clear hb HS;have HS:=HY;clear HY) | (with_reducible refine wpList_look ?_;refine wpList_load_row rfl 37 _ rfl _ rfl 37 #[.string ch,.string sl,.string mm,.string mo,.string mg,.string mh,.string wm,.string wo,.string wg,.string wh,.string se,.string at_,.string ha,.string el,.string es,.string bl,.string ma,.string nm,.string m,.string o,.string z,.string s,.slice AR nR cR,.string u,.string h,.string P,.string Q] (0,0) _ HS.out.set Tryz.underlying37 rfl (c27.trans rfl) ?_))
   go_ret
   exact ⟨rfl,HS.out.bel⟩
 cases b4
 · go_enter Tryz.func4, Tryz.ntmps4
   go_wp2_with (first | (go_at_call 5;(with_reducible refine (KF.out _ HS.out.r0 HS.out.bel.size).mono ?_);rintro e wn ⟨rfl,hb⟩;have HY:=Lib.hid (HS.out.next hb);obtain ⟨v0,v1,v2⟩:=HY.out.cells;clear hb HS;have HS:=HY;clear HY) | (go_at_call 6;(with_reducible refine (KL1.out _ HS.out.r1).mono ?_);rintro e wn ⟨rfl,rfl⟩) | (go_at_call 10;(refine (KSH.out _ _ _ (SLs.newAt _ 22 [sA,sE,sV] _ rfl)).mono ?_);rintro e wn ⟨rfl,rfl⟩;have HY:=Lib.hid (HS.out.alloc (.cells #[.string sA,.string sE,.string sV] 22));obtain ⟨v0,v1,v2⟩:=HY.out.cells;clear HS;have HS:=HY;clear HY) | (go_at_call 7;(with_reducible refine (KAW.out _ HS.out.bel).mono ?_);rintro e wn ⟨rfl,hb⟩;have HY:=Lib.hid (HS.out.next hb);obtain ⟨v0,v1,v2⟩:=HY.out.cells;clear hb HS;have HS:=HY;clear HY) | (with_reducible refine wpList_look ?_;refine wpList_load_row rfl 37 _ rfl _ rfl 37 #[.string ch,.string sl,.string mm,.string mo,.string mg,.string mh,.string wm,.string wo,.string wg,.string wh,.string se,.string at_,.string ha,.string el,.string es,.string bl,.string ma,.string nm,.string m,.string o,.string z,.string s,.slice AR nR cR,.string u,.string h,.string P,.string Q] (0,0) _ HS.out.set Tryz.underlying37 rfl (c27.trans rfl) ?_))
   go_ret
   exact ⟨rfl,HS.out.bel⟩
 obtain ⟨⟨⟨y1,y2,y3,y4⟩,y5,y6,y7⟩,sm,snm,hR6⟩:=HFF.out rfl
 have hq1:=HLL.out rfl
 obtain ⟨hnR,hn1⟩:=HNN.out
 obtain ⟨PP,hPP⟩ : ∃ PP,parS ch sl mm mo mg mh wm wo wg wh se at_ ha el es bl ma=PP:=⟨_,rfl⟩
 have hpar:=@par_ok ch sl mm mo mg mh wm wo wg wh se at_ ha el es bl ma
 rw [hPP] at hpar
 have KV1:=Lib.hid (fun wq (hb : Below w.heap.size w wq) (hr : SLs wq w.heap.size AR rs) (hs : SLs wq w.heap.size A1 l1)=>cl_Verify PP ch sl mm mo mg mh wm wo wg wh se at_ ha el es bl ma nm m o z s u h sA sE sV AR A1 nR n1 cR c1 rs l1 wq sm (by omega) hnR hn1 (by omega) (by omega) (hr.more hb.size) (hs.more hb.size) (HT.out.below hb) (fun h=>(hpar h).1) (fun wq2 h2=>by
  have:=params_Check ch sl mm mo mg mh wm wo wg wh se at_ ha el es bl ma wq2 y1 y2 y3 y4 (HT.out.below (hb.trans (h2.mono hb.size)))
  rw [hPP] at this
  exact this))
 have KV2:=Lib.hid (fun wq (hb : Below w.heap.size w wq) (hr : SLs wq w.heap.size AR rs) (hs : SLs wq w.heap.size A1 l1)=>r30_Verify PP ch sl mm mo mg mh wm wo wg wh se at_ ha el es bl ma nm m o z s u h sA sE sV AR A1 nR n1 cR c1 rs l1 wq sm (by omega) hnR hn1 (by omega) (by omega) (hr.more hb.size) (hs.more hb.size) (HT.out.below hb) (fun h=>(hpar h).1) (fun wq2 h2=>by
  have:=r11_Check ch sl mm mo mg mh wm wo wg wh se at_ ha el es bl ma wq2 y1 y2 y3 y4
  rw [hPP] at this
  exact this))
 obtain ⟨X,hX⟩ : ∃ X,verS (keyE PP nm m o z s u h rs) m o s z se ha at_ el es bl sA sE sV rs l1=X:=⟨_,rfl⟩
 rw [hX] at KV1 KV2
 clear hX hpar hPP y1 y2 y3 y4 y5 y6 y7 sm snm hR6 hq1 hnR hn1 HFF HLL HNN
 go_enter Tryz.func4, Tryz.ntmps4
 go_upto_region 3 with (first | (go_at_call 5;(with_reducible refine (KF.out _ HS.out.r0 HS.out.bel.size).mono ?_);rintro e wn ⟨rfl,hb⟩;have HY:=Lib.hid (HS.out.next hb);obtain ⟨v0,v1,v2⟩:=HY.out.cells;clear hb HS;have HS:=HY;clear HY) | (go_at_call 6;(with_reducible refine (KL1.out _ HS.out.r1).mono ?_);rintro e wn ⟨rfl,rfl⟩) | (go_at_call 10;(refine (KSH.out _ _ _ (SLs.newAt _ 22 [sA,sE,sV] _ rfl)).mono ?_);rintro e wn ⟨rfl,rfl⟩;have HY:=Lib.hid (HS.out.alloc (.cells #[.string sA,.string sE,.string sV] 22));obtain ⟨v0,v1,v2⟩:=HY.out.cells;clear HS;have HS:=HY;clear HY) | (with_reducible refine wpList_look ?_;refine wpList_load_row rfl 37 _ rfl _ rfl 37 #[.string ch,.string sl,.string mm,.string mo,.string mg,.string mh,.string wm,.string wo,.string wg,.string wh,.string se,.string at_,.string ha,.string el,.string es,.string bl,.string ma,.string nm,.string m,.string o,.string z,.string s,.slice AR nR cR,.string u,.string h,.string P,.string Q] (0,0) _ HS.out.set Tryz.underlying37 rfl (c27.trans rfl) ?_))
 refine wp_region_held_drew (S:=(fun w'=>VfB w #[.string ch,.string sl,.string mm,.string mo,.string mg,.string mh,.string wm,.string wo,.string wg,.string wh,.string se,.string at_,.string ha,.string el,.string es,.string bl,.string ma,.string nm,.string m,.string o,.string z,.string s,.slice AR nR cR,.string u,.string h,.string P,.string Q] A1 AR sA sE sV rs l1 w')) (by kernel_rfl) ?_ (fun hHeld=>?_)
 · exact HS.out.drew
 have HD:=Lib.hid HS.out.drew
 refine wpAnyH_ready (rs:=[0]) (by kernel_rfl) (by simp) ?_
 refine AllReadyH.cons rfl (fun K hK=>?_) AllReadyH.nil
 go_simp
 ((with_reducible refine (KAW.out _ HD.out.bel).mono ?_);rintro e w1 ⟨rfl,hb⟩;have H1:=Lib.hid (HD.out.next hb);clear hb)
 go_wp2_with fail
 refine hK.out _ _ ?_ (fun hHeld=>?_)
 · exact H1.out
 clear hK K
 try simp only [Act.put,List.setIfInBounds_toArray,List.set]
 refine wpAnyH_takeD (i:=1) (v:=.bool true) (some 28) rfl (by kernel_rfl) (by kernel_rfl) (by kernel_rfl) (fun _ _ _ h=>h) rfl (Or.inl ⟨by rfl,?_⟩) (by assumption) ?_
 · intro w' hS;go_simp<;>with_reducible rfl
 try simp only [Act.put,List.setIfInBounds_toArray,List.set]
 refine wpAnyH_takeD (i:=2) (v:=.pointer (some ⟨w.heap.size,0,none⟩)) (some 29) rfl (by kernel_rfl) (by kernel_rfl) (by kernel_rfl) (fun _ _ _ h=>h) rfl (Or.inl ⟨by rfl,?_⟩) (by assumption) ?_
 · intro w' hS;go_simp<;>with_reducible rfl
 try simp only [Act.put,List.setIfInBounds_toArray,List.set]
 refine wpAnyH_takeD (i:=3) (v:=.agg #[.string ch,.string sl,.string mm,.string mo,.string mg,.string mh,.string wm,.string wo,.string wg,.string wh,.string se,.string at_,.string ha,.string el,.string es,.string bl,.string ma]) (some 30) rfl (by kernel_rfl) (by kernel_rfl) (by kernel_rfl) (fun _ _ _ h=>h) rfl (Or.inl ⟨by rfl,?_⟩) (by assumption) ?_
 · intro w' hS;exact run_exec_load_sub 30 (.tmp 29) rfl _ 0 rfl 37 _ #[.string ch,.string sl,.string mm,.string mo,.string mg,.string mh,.string wm,.string wo,.string wg,.string wh,.string se,.string at_,.string ha,.string el,.string es,.string bl,.string ma,.string nm,.string m,.string o,.string z,.string s,.slice AR nR cR,.string u,.string h,.string P,.string Q] _ _ hS.set ext_par Tryz.underlying30 rfl (info17'.trans rfl)
 try simp only [Act.put,List.setIfInBounds_toArray,List.set]
 refine wpAnyH_takeD (i:=4) (v:=.pointer (some ⟨w.heap.size,17,none⟩)) (some 31) rfl (by kernel_rfl) (by kernel_rfl) (by kernel_rfl) (fun _ _ _ h=>h) rfl (Or.inl ⟨by rfl,?_⟩) (by assumption) ?_
 · intro w' hS;go_simp<;>with_reducible rfl
 try simp only [Act.put,List.setIfInBounds_toArray,List.set]
 refine wpAnyH_takeD (i:=5) (v:=.agg #[.string nm,.string m,.string o,.string z,.string s,.slice AR nR cR,.string u,.string h]) (some 32) rfl (by kernel_rfl) (by kernel_rfl) (by kernel_rfl) (fun _ _ _ h=>h) rfl (Or.inl ⟨by rfl,?_⟩) (by assumption) ?_
 · intro w' hS;exact run_exec_load_sub 33 (.tmp 31) rfl _ 17 rfl 37 _ #[.string ch,.string sl,.string mm,.string mo,.string mg,.string mh,.string wm,.string wo,.string wg,.string wh,.string se,.string at_,.string ha,.string el,.string es,.string bl,.string ma,.string nm,.string m,.string o,.string z,.string s,.slice AR nR cR,.string u,.string h,.string P,.string Q] _ _ hS.set ext_key Tryz.underlying33 rfl (info8'.trans rfl)
 try simp only [Act.put,List.setIfInBounds_toArray,List.set]
 refine wpAnyH_takeD (i:=6) (v:=.slice A1 n1 c1) (some 33) rfl (by kernel_rfl) (by kernel_rfl) (by kernel_rfl) (fun _ _ _ h=>h) rfl (Or.inl ⟨by rfl,?_⟩) (by assumption) ?_
 · intro w' hS;go_simp<;>with_reducible rfl
 try simp only [Act.put,List.setIfInBounds_toArray,List.set]
 refine wpAnyH_takeD (i:=7) (v:=.agg #[.string sA,.string sE,.string sV]) (some 34) rfl (by kernel_rfl) (by kernel_rfl) (by kernel_rfl) (fun _ _ _ h=>h) rfl (Or.inl ⟨by rfl,?_⟩) (by assumption) ?_
 · intro w' hS;exact run_exec_load_row 48 (.tmp 5) rfl _ rfl _ _ _ _ hS.sig Tryz.underlying48 rfl (info3s'.trans rfl)
 try simp only [Act.put,List.setIfInBounds_toArray,List.set]
 refine wpAnyH_takeD (i:=9) (v:=.pointer (some ⟨w.heap.size,0,none⟩)) (some 36) rfl (by kernel_rfl) (by kernel_rfl) (by kernel_rfl) (fun _ _ _ h=>h) rfl (Or.inl ⟨by rfl,?_⟩) (by assumption) ?_
 · intro w' hS;go_simp<;>with_reducible rfl
 try simp only [Act.put,List.setIfInBounds_toArray,List.set]
 refine wpAnyH_takeD (i:=10) (v:=.agg #[.string ch,.string sl,.string mm,.string mo,.string mg,.string mh,.string wm,.string wo,.string wg,.string wh,.string se,.string at_,.string ha,.string el,.string es,.string bl,.string ma]) (some 37) rfl (by kernel_rfl) (by kernel_rfl) (by kernel_rfl) (fun _ _ _ h=>h) rfl (Or.inl ⟨by rfl,?_⟩) (by assumption) ?_
 · intro w' hS;exact run_exec_load_sub 30 (.tmp 36) rfl _ 0 rfl 37 _ #[.string ch,.string sl,.string mm,.string mo,.string mg,.string mh,.string wm,.string wo,.string wg,.string wh,.string se,.string at_,.string ha,.string el,.string es,.string bl,.string ma,.string nm,.string m,.string o,.string z,.string s,.slice AR nR cR,.string u,.string h,.string P,.string Q] _ _ hS.set ext_par Tryz.underlying30 rfl (info17'.trans rfl)
 try simp only [Act.put,List.setIfInBounds_toArray,List.set]
 refine wpAnyH_takeD (i:=11) (v:=.pointer (some ⟨w.heap.size,17,none⟩)) (some 38) rfl (by kernel_rfl) (by kernel_rfl) (by kernel_rfl) (fun _ _ _ h=>h) rfl (Or.inl ⟨by rfl,?_⟩) (by assumption) ?_
 · intro w' hS;go_simp<;>with_reducible rfl
 try simp only [Act.put,List.setIfInBounds_toArray,List.set]
 refine wpAnyH_takeD (i:=12) (v:=.agg #[.string nm,.string m,.string o,.string z,.string s,.slice AR nR cR,.string u,.string h]) (some 39) rfl (by kernel_rfl) (by kernel_rfl) (by kernel_rfl) (fun _ _ _ h=>h) rfl (Or.inl ⟨by rfl,?_⟩) (by assumption) ?_
 · intro w' hS;exact run_exec_load_sub 33 (.tmp 38) rfl _ 17 rfl 37 _ #[.string ch,.string sl,.string mm,.string mo,.string mg,.string mh,.string wm,.string wo,.string wg,.string wh,.string se,.string at_,.string ha,.string el,.string es,.string bl,.string ma,.string nm,.string m,.string o,.string z,.string s,.slice AR nR cR,.string u,.string h,.string P,.string Q] _ _ hS.set ext_key Tryz.underlying33 rfl (info8'.trans rfl)
 try simp only [Act.put,List.setIfInBounds_toArray,List.set]
 refine wpAnyH_takeD (i:=13) (v:=.slice A1 n1 c1) (some 40) rfl (by kernel_rfl) (by kernel_rfl) (by kernel_rfl) (fun _ _ _ h=>h) rfl (Or.inl ⟨by rfl,?_⟩) (by assumption) ?_
 · intro w' hS;go_simp<;>with_reducible rfl
 try simp only [Act.put,List.setIfInBounds_toArray,List.set]
 refine wpAnyH_takeD (i:=14) (v:=.agg #[.string sA,.string sE,.string sV]) (some 41) rfl (by kernel_rfl) (by kernel_rfl) (by kernel_rfl) (fun _ _ _ h=>h) rfl (Or.inl ⟨by rfl,?_⟩) (by assumption) ?_
 · intro w' hS;exact run_exec_load_row 48 (.tmp 5) rfl _ rfl _ _ _ _ hS.sig Tryz.underlying48 rfl (info3s'.trans rfl)
 try simp only [Act.put,List.setIfInBounds_toArray,List.set]
 refine wpAnyH_ready (rs:=[8]) (by kernel_rfl) (by simp) ?_
 refine AllReadyH.cons rfl (fun K hK=>?_) AllReadyH.nil
 go_simp
 ((with_reducible refine (KV1.out _ H1.out.bel H1.out.r0 H1.out.r1).mono ?_);rintro e w2 ⟨rfl,hb⟩;have H2:=Lib.hid (H1.out.next hb);clear hb)
 go_wp2_with fail
 refine hK.out _ _ ?_ (fun hHeld=>?_)
 · exact H2.out
 clear hK K
 try simp only [Act.put,List.setIfInBounds_toArray,List.set]
 refine wpAnyH_ready (rs:=[15]) (by kernel_rfl) (by simp) ?_
 refine AllReadyH.cons rfl (fun K hK=>?_) AllReadyH.nil
 go_simp
 ((with_reducible refine (KV2.out _ H2.out.bel H2.out.r0 H2.out.r1).mono ?_);rintro e w3 ⟨rfl,hb⟩;have H3:=Lib.hid (H2.out.next hb);clear hb)
 go_wp2_with fail
 refine hK.out _ _ ?_ (fun hHeld=>?_)
 · exact H3.out
 clear hK K
 try simp only [Act.put,List.setIfInBounds_toArray,List.set]
 refine wpAnyH_takeD (i:=16) (v:=.bool true) (some 43) rfl (by kernel_rfl) (by kernel_rfl) (by kernel_rfl) (fun _ _ _ h=>h) rfl (Or.inl ⟨by rfl,?_⟩) (by assumption) ?_
 · intro w' hS;go_simp<;>with_reducible rfl
 try simp only [Act.put,List.setIfInBounds_toArray,List.set]
 refine wpAnyH_takeD (i:=17) (v:=.bool true) (some 44) rfl (by kernel_rfl) (by kernel_rfl) (by kernel_rfl) (fun _ _ _ h=>h) rfl (Or.inl ⟨by rfl,?_⟩) (by assumption) ?_
 · intro w' hS;go_simp<;>with_reducible rfl
 try simp only [Act.put,List.setIfInBounds_toArray,List.set]
 refine wpAnyH_takeD (i:=18) (v:=?_) (some 6) rfl (by kernel_rfl) (by kernel_rfl) (by kernel_rfl) (fun _ _ _ h=>h) rfl (Or.inl ⟨by rfl,?_⟩) (by assumption) ?_
 rotate_left
 · intro w hSw;(try dsimp only at hSw);go_simp<;>with_reducible rfl
 try simp only [Act.put,List.setIfInBounds_toArray,List.set]
 refine wpAnyH_done (by kernel_rfl) ?_ _
 go_wp2_with fail
 go_ret
 exact ⟨rfl,H3.out.bel⟩
end Go.Proofs.YtjkccbpmlapgcaaGreatDoor
