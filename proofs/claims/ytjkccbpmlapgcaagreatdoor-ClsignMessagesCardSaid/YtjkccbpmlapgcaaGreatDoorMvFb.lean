/- The law ClsignMessages: the walk. -/
import Derived.Test.YtjkccbpmlapgcaaGreatDoorMvFa
import Derived.Test.YtjkccbpmlapgcaaGreatDoorMvKl
import Derived.Test.YtjkccbpmlapgcaaGreatDoorMvPD
namespace Go.Proofs.YtjkccbpmlapgcaaGreatDoor
open Go.RowKit
set_option maxRecDepth 100000
set_option linter.unusedVariables false
set_option maxHeartbeats 8000000
structure StB (w : World) (ss : Array Value) (A1 AR : Option Addr) (rs l1 : List ByteArray) (W : World) : Prop where
 set : W.heap[w.heap.size]?=some (.cells ss 37 (0,0))
 r0 : SLs W w.heap.size AR rs
 r1 : SLs W w.heap.size A1 l1
 bel : Below w.heap.size w W
theorem StB.next {w W W' : World} {ss : Array Value} {A1 AR : Option Addr} {rs l1 : List ByteArray} (k : StB w ss A1 AR rs l1 W) (hb : Below W.heap.size W W') : StB w ss A1 AR rs l1 W' :=
 ⟨(hb.block _ (Array.getElem?_eq_some_iff.1 k.set).1).trans k.set,k.r0.below (hb.mono k.bel.size),k.r1.below (hb.mono k.bel.size),k.bel.trans (hb.mono k.bel.size)⟩
theorem StB.start {ss : Array Value} {A1 AR : Option Addr} {rs l1 : List ByteArray} (w : World) (h0 : SLs w w.heap.size AR rs) (h1 : SLs w w.heap.size A1 l1) : StB w ss A1 AR rs l1 (w.alloc (.cells ss 37)) :=
 have hb:=(Below.refl w.heap.size w).alloc (Nat.le_refl _) (.cells ss 37)
 ⟨heap_alloc_new w _,h0.below hb,h1.below hb,hb⟩
theorem law_messages (ch sl mm mo mg mh wm wo wg wh se at_ ha el es bl ma nm m o z s u h P Q : ByteArray) (AR A1 : Option Addr) (nR cR n1 c1 : Nat) (rs l1 : List ByteArray) (w : World)
  (hnR : rs.length=nR) (hmR : nR≤maxLen) (hn1 : l1.length=n1) (hm1 : n1≤maxLen) (h0 : SLs w w.heap.size AR rs) (h1 : SLs w w.heap.size A1 l1) (hT : Tab w) (hT10 : Tab10 w) :
  Calls Tryz.prog 3 #[.agg #[.string ch,.string sl,.string mm,.string mo,.string mg,.string mh,.string wm,.string wo,.string wg,.string wh,.string se,.string at_,.string ha,.string el,.string es,.string bl,.string ma,.string nm,.string m,.string o,.string z,.string s,.slice AR nR cR,.string u,.string h,.string P,.string Q],.slice A1 n1 c1] w fun e w'=>e=.returned (.bool true)∧Below w.heap.size w w':=by
 have KF:=Lib.hid (fun wq hs hz=>law30_few ch sl mm mo mg mh wm wo wg wh se at_ ha el es bl ma nm m o z s u h P Q AR nR cR w.heap.size rs wq hnR hmR hs hz)
 have KL1:=Lib.hid (fun wq hs=>law30_list l1 A1 n1 c1 w.heap.size wq hn1 hm1 hs)
 have KAW:=Lib.hid (fun wq (hb : Below w.heap.size w wq)=>law30_awake wq (hT.below hb) (hT10.below hb))
 have HS:=Lib.hid (StB.start (ss:=#[.string ch,.string sl,.string mm,.string mo,.string mg,.string mh,.string wm,.string wo,.string wg,.string wh,.string se,.string at_,.string ha,.string el,.string es,.string bl,.string ma,.string nm,.string m,.string o,.string z,.string s,.slice AR nR cR,.string u,.string h,.string P,.string Q]) w h0 h1)
 obtain ⟨W0,hW0⟩ : ∃ W0,w.alloc (.cells #[.string ch,.string sl,.string mm,.string mo,.string mg,.string mh,.string wm,.string wo,.string wg,.string wh,.string se,.string at_,.string ha,.string el,.string es,.string bl,.string ma,.string nm,.string m,.string o,.string z,.string s,.slice AR nR cR,.string u,.string h,.string P,.string Q] 37)=W0:=⟨_,rfl⟩
 rw [hW0] at HS
 have hff:=@few_facts ch sl mm mo mg mh wm wo wg wh se at_ ha el es bl ma nm m o z s u h P Q rs
 have hl1:=@list_len l1
 obtain ⟨b1,hb1⟩ : ∃ b1,setFew ch sl mm mo mg mh wm wo wg wh se at_ ha el es bl ma nm m o z s u h P Q rs=b1:=⟨_,rfl⟩
 obtain ⟨b2,hb2⟩ : ∃ b2,listS l1=b2:=⟨_,rfl⟩
 simp only [hb1] at KF
 rw [hb1] at hff
 simp only [hb2] at KL1
 rw [hb2] at hl1
 have HFF:=Lib.hid hff
 have HLL:=Lib.hid hl1
 have HNN:=Lib.hid (And.intro hnR hn1)
 have HT:=Lib.hid hT
 clear hb1 hb2 hff hl1 hnR hn1 hmR hm1 h0 h1 hT hT10
 cases b1
 · go_enter Tryz.func3, Tryz.ntmps3
   go_wp2_with (first | (go_at_call 5;(with_reducible refine (KF.out _ HS.out.r0 HS.out.bel.size).mono ?_);rintro e wn ⟨rfl,hb⟩;have HY:=Lib.hid (HS.out.next hb);clear hb HS;have HS:=HY;clear HY) | (go_at_call 7;(with_reducible refine (KAW.out _ HS.out.bel).mono ?_);rintro e wn ⟨rfl,hb⟩;have HY:=Lib.hid (HS.out.next hb);clear hb HS;have HS:=HY;clear HY) | (with_reducible refine wpList_look ?_;refine wpList_load_row rfl 37 _ rfl _ rfl 37 #[.string ch,.string sl,.string mm,.string mo,.string mg,.string mh,.string wm,.string wo,.string wg,.string wh,.string se,.string at_,.string ha,.string el,.string es,.string bl,.string ma,.string nm,.string m,.string o,.string z,.string s,.slice AR nR cR,.string u,.string h,.string P,.string Q] (0,0) _ HS.out.set Tryz.underlying37 rfl (c27.trans rfl) ?_))
   go_ret
   exact ⟨rfl,HS.out.bel⟩
 cases b2
 · go_enter Tryz.func3, Tryz.ntmps3
   go_wp2_with (first | (go_at_call 5;(with_reducible refine (KF.out _ HS.out.r0 HS.out.bel.size).mono ?_);rintro e wn ⟨rfl,hb⟩;have HY:=Lib.hid (HS.out.next hb);clear hb HS;have HS:=HY;clear HY) | (go_at_call 6;(with_reducible refine (KL1.out _ HS.out.r1).mono ?_);rintro e wn ⟨rfl,rfl⟩) | (go_at_call 7;(with_reducible refine (KAW.out _ HS.out.bel).mono ?_);rintro e wn ⟨rfl,hb⟩;have HY:=Lib.hid (HS.out.next hb);clear hb HS;have HS:=HY;clear HY) | (with_reducible refine wpList_look ?_;refine wpList_load_row rfl 37 _ rfl _ rfl 37 #[.string ch,.string sl,.string mm,.string mo,.string mg,.string mh,.string wm,.string wo,.string wg,.string wh,.string se,.string at_,.string ha,.string el,.string es,.string bl,.string ma,.string nm,.string m,.string o,.string z,.string s,.slice AR nR cR,.string u,.string h,.string P,.string Q] (0,0) _ HS.out.set Tryz.underlying37 rfl (c27.trans rfl) ?_))
   go_ret
   exact ⟨rfl,HS.out.bel⟩
 obtain ⟨⟨⟨y1,y2,y3,y4⟩,y5,y6,y7⟩,sm,snm,hR6⟩:=HFF.out rfl
 have hq1:=HLL.out rfl
 obtain ⟨hnR,hn1⟩:=HNN.out
 obtain ⟨PP,hPP⟩ : ∃ PP,parS ch sl mm mo mg mh wm wo wg wh se at_ ha el es bl ma=PP:=⟨_,rfl⟩
 have hpar:=@par_ok ch sl mm mo mg mh wm wo wg wh se at_ ha el es bl ma
 rw [hPP] at hpar
 have KM1:=Lib.hid (fun wq (hb : Below w.heap.size w wq) (hr : SLs wq w.heap.size AR rs) (hs : SLs wq w.heap.size A1 l1)=>cl_Message PP ch sl mm mo mg mh wm wo wg wh se at_ ha el es bl ma nm m o z s u h AR A1 nR n1 cR c1 rs l1 wq sm (by omega) hnR hn1 (by omega) (by omega) (hr.more hb.size) (hs.more hb.size) (fun h=>(hpar h).1.1) (fun wq2 h2=>by
  have:=params_Check ch sl mm mo mg mh wm wo wg wh se at_ ha el es bl ma wq2 y1 y2 y3 y4 (HT.out.below (hb.trans (h2.mono hb.size)))
  rw [hPP] at this
  exact this))
 have KM2:=Lib.hid (fun wq (hb : Below w.heap.size w wq) (hr : SLs wq w.heap.size AR rs) (hs : SLs wq w.heap.size A1 l1)=>r30_Message PP ch sl mm mo mg mh wm wo wg wh se at_ ha el es bl ma nm m o z s u h AR A1 nR n1 cR c1 rs l1 wq sm (by omega) hnR hn1 (by omega) (by omega) (hr.more hb.size) (hs.more hb.size) (fun h=>(hpar h).1.1) (fun wq2 h2=>by
  have:=r11_Check ch sl mm mo mg mh wm wo wg wh se at_ ha el es bl ma wq2 y1 y2 y3 y4
  rw [hPP] at this
  exact this))
 obtain ⟨Y,hY⟩ : ∃ Y,msgS (keyE PP nm m o z s u h rs) m se ha at_ rs l1=Y:=⟨_,rfl⟩
 rw [hY] at KM1 KM2
 obtain ⟨Yb,Ye⟩:=Y
 clear hY hpar hPP y1 y2 y3 y4 y5 y6 y7 sm snm hR6 hq1 hnR hn1 HFF HLL HNN
 have KM1b : Hid (∀ wq,Below w.heap.size w wq→SLs wq w.heap.size AR rs→SLs wq w.heap.size A1 l1→Calls Tryz.prog 8 #[.agg #[.string ch,.string sl,.string mm,.string mo,.string mg,.string mh,.string wm,.string wo,.string wg,.string wh,.string se,.string at_,.string ha,.string el,.string es,.string bl,.string ma],.agg #[.string nm,.string m,.string o,.string z,.string s,.slice AR nR cR,.string u,.string h],.slice A1 n1 c1] wq fun e w'=>e=.returned (.tuple #[.string Yb,.int .i64 Ye])∧Below wq.heap.size wq w'):=Lib.hid KM1.out
 have KM2b : Hid (∀ wq,Below w.heap.size w wq→SLs wq w.heap.size AR rs→SLs wq w.heap.size A1 l1→Calls Tryz.prog 9 #[.agg #[.string ch,.string sl,.string mm,.string mo,.string mg,.string mh,.string wm,.string wo,.string wg,.string wh,.string se,.string at_,.string ha,.string el,.string es,.string bl,.string ma],.agg #[.string nm,.string m,.string o,.string z,.string s,.slice AR nR cR,.string u,.string h],.slice A1 n1 c1] wq fun e w'=>e=.returned (.tuple #[.string Yb,.int .i64 Ye])∧Below wq.heap.size wq w'):=Lib.hid KM2.out
 have k2 : (Yb.toList==Yb.toList)=true:=by simp
 clear KM1 KM2
 go_enter Tryz.func3, Tryz.ntmps3
 go_wp2_with (first | (go_at_call 5;(with_reducible refine (KF.out _ HS.out.r0 HS.out.bel.size).mono ?_);rintro e wn ⟨rfl,hb⟩;have HY:=Lib.hid (HS.out.next hb);clear hb HS;have HS:=HY;clear HY) | (go_at_call 6;(with_reducible refine (KL1.out _ HS.out.r1).mono ?_);rintro e wn ⟨rfl,rfl⟩) | (go_at_call 8;(with_reducible refine (KM1b.out _ HS.out.bel HS.out.r0 HS.out.r1).mono ?_);rintro e wn ⟨rfl,hb⟩;have HY:=Lib.hid (HS.out.next hb);clear hb HS;have HS:=HY;clear HY) | (go_at_call 9;(with_reducible refine (KM2b.out _ HS.out.bel HS.out.r0 HS.out.r1).mono ?_);rintro e wn ⟨rfl,hb⟩;have HY:=Lib.hid (HS.out.next hb);clear hb HS;have HS:=HY;clear HY) | (go_at_call 7;(with_reducible refine (KAW.out _ HS.out.bel).mono ?_);rintro e wn ⟨rfl,hb⟩;have HY:=Lib.hid (HS.out.next hb);clear hb HS;have HS:=HY;clear HY) | (with_reducible refine wpList_look ?_;refine wpList_load_row rfl 37 _ rfl _ rfl 37 #[.string ch,.string sl,.string mm,.string mo,.string mg,.string mh,.string wm,.string wo,.string wg,.string wh,.string se,.string at_,.string ha,.string el,.string es,.string bl,.string ma,.string nm,.string m,.string o,.string z,.string s,.slice AR nR cR,.string u,.string h,.string P,.string Q] (0,0) _ HS.out.set Tryz.underlying37 rfl (c27.trans rfl) ?_) | (with_reducible refine wpList_look ?_;refine wpList_load_sub rfl 30 _ rfl _ 0 rfl 37 #[.string ch,.string sl,.string mm,.string mo,.string mg,.string mh,.string wm,.string wo,.string wg,.string wh,.string se,.string at_,.string ha,.string el,.string es,.string bl,.string ma] #[.string ch,.string sl,.string mm,.string mo,.string mg,.string mh,.string wm,.string wo,.string wg,.string wh,.string se,.string at_,.string ha,.string el,.string es,.string bl,.string ma,.string nm,.string m,.string o,.string z,.string s,.slice AR nR cR,.string u,.string h,.string P,.string Q] (0,0) _ HS.out.set ext_par Tryz.underlying30 rfl (info17'.trans rfl) ?_) | (with_reducible refine wpList_look ?_;refine wpList_load_sub rfl 33 _ rfl _ 17 rfl 37 #[.string nm,.string m,.string o,.string z,.string s,.slice AR nR cR,.string u,.string h] #[.string ch,.string sl,.string mm,.string mo,.string mg,.string mh,.string wm,.string wo,.string wg,.string wh,.string se,.string at_,.string ha,.string el,.string es,.string bl,.string ma,.string nm,.string m,.string o,.string z,.string s,.slice AR nR cR,.string u,.string h,.string P,.string Q] (0,0) _ HS.out.set ext_key Tryz.underlying33 rfl (info8'.trans rfl) ?_))
 go_ret
 exact ⟨rfl,HS.out.bel⟩
end Go.Proofs.YtjkccbpmlapgcaaGreatDoor
