/- The law ClsignShifts: the walk. -/
import Derived.Test.YtgkggkpighpdiaaGreatDoorShJF
import Derived.Test.YtgkggkpighpdiaaGreatDoorShLe
namespace Go.Proofs.YtgkggkpighpdiaaGreatDoor
open Go.RowKit
set_option maxRecDepth 100000
set_option linter.unusedVariables false
set_option maxHeartbeats 8000000
theorem shA_form (m s A : ByteArray) (r : Nat) : msgV m [A,s] [B 1,B r]=shA m s A r:=by
 unfold msgV zipE shA
 simp only [List.zipWith_cons_cons,List.zipWith_nil_right,pwE_cons,pwE_nil,num_B,Nat.pow_one,Nat.mul_one]
theorem sls_row2 {w : World} {g : Nat} {T : TypeId} {x y : ByteArray} (h : w.heap[g]?=some (.cells #[.string x,.string y] T (0,0))) : SLs w w.heap.size (some ⟨g,0,none⟩) [x,y] :=
 SLs.of_row (fun j hj=>by
  rw [cell_of_row w g j _ _ _ h]
  rcases j with _ | _ | j
  · rfl
  · rfl
  · simp at hj;omega) (Array.getElem?_eq_some_iff.1 h).1
theorem zls_row2 {w : World} {g : Nat} {T : TypeId} {b1 b2 : Bool} {x y : ByteArray} (h : w.heap[g]?=some (.cells #[.bool b1,.string x,.bool b2,.string y] T (0,0))) : ZLs w w.heap.size (some ⟨g,0,none⟩) [(b1,x),(b2,y)]:=fun _=>by
 refine ⟨g,rfl,(Array.getElem?_eq_some_iff.1 h).1,fun j hj=>?_⟩
 rw [cell_of_row w g _ _ _ _ h,cell_of_row w g _ _ _ _ h]
 rcases j with _ | _ | j
 · exact ⟨rfl,rfl⟩
 · exact ⟨rfl,rfl⟩
 · simp at hj;omega
theorem integer_OfN (r : Nat) (w : World) (hr : r≤10) :
  Calls Tryz.prog 20 #[.int .i64 (r : Int)] w fun e w'=>e=.returned (.agg #[.bool false,.string (B r)])∧Below w.heap.size w w':=by
 have h0 : ¬ (r : Int) < 0:=by omega
 have hcv : IntKind.u64.wrap (r : Int)=(r : Int):=by rw [IntKind.wrap_u64];omega
 go_enter Tryz.func20, Tryz.ntmps20
 go_wp2_with (first | (go_at_call 17;(with_reducible refine (natural_Of' _ r _ (by first | rfl | exact hcv) (by omega)).mono ?_);rintro e w1 ⟨rfl,hb1⟩;have hcw1:=(bcell hb1).1;have hfw1:=(bcell hb1).2;have hs1:=hb1.size;have hq1 : w.heap.size < w1.heap.size:=by { simp at hs1;omega }) | (go_at_call 60;(with_reducible refine (integer_made _ _ _).mono ?_);rintro e w2 ⟨rfl,hb2⟩;have hcw2:=(bcell hb2).1;have hfw2:=(bcell hb2).2;have hs2:=hb2.size;have hq2 : w.heap.size < w2.heap.size:=by { omega }))
 exact bodyPost_ret (v:=.agg #[.bool false,.string (B r)]) (by simp [results,Tryz.results20,go_sem,hcw2,hcw1,hq1]) rfl ⟨rfl,((below2 (below2 ((Below.refl _ _).alloc (Nat.le_refl _) _) hb1) hb2).setCell (by simp) _).setCell (by simp) _⟩
structure VfB (w : World) (ss : Array Value) (A1 AR : Option Addr) (sA sE sV : ByteArray) (rs l1 : List ByteArray) (W : World) : Prop where
 set : W.heap[w.heap.size]?=some (.cells ss 37 (0,0))
 sig : W.heap[w.heap.size+1]?=some (.cells #[.string sA,.string sE,.string sV] 51 (0,0))
 r0 : SLs W w.heap.size AR rs
 r1 : SLs W w.heap.size A1 l1
 bel : Below w.heap.size w W
section
variable {w W W' : World} {ss : Array Value} {A1 AR : Option Addr} {sA sE sV : ByteArray} {rs l1 : List ByteArray}
theorem VfB.next (k : VfB w ss A1 AR sA sE sV rs l1 W) (hb : Below W.heap.size W W') : VfB w ss A1 AR sA sE sV rs l1 W':=by
 have l:=(Array.getElem?_eq_some_iff.1 k.sig).1
 exact ⟨(hb.block _ (by omega)).trans k.set,(hb.block _ l).trans k.sig,k.r0.below (hb.mono k.bel.size),k.r1.below (hb.mono k.bel.size),k.bel.trans (hb.mono k.bel.size)⟩
theorem VfB.alloc (k : VfB w ss A1 AR sA sE sV rs l1 W) (ob : Obj) : VfB w ss A1 AR sA sE sV rs l1 (W.alloc ob):=k.next ((Below.refl _ _).alloc (Nat.le_refl _) _)
theorem VfB.drew (k : VfB w ss A1 AR sA sE sV rs l1 W) : VfB w ss A1 AR sA sE sV rs l1 W.drew:=k.next ((Below.refl _ _).drew)
theorem VfB.cells (k : VfB w ss A1 AR sA sE sV rs l1 W) : W.cell? ⟨w.heap.size+1,0,none⟩=some (.string sA)∧W.cell? ⟨w.heap.size+1,1,none⟩=some (.string sE)∧W.cell? ⟨w.heap.size+1,2,none⟩=some (.string sV):=by
 refine ⟨?_,?_,?_⟩<;>simp [World.cell?,k.sig]
theorem VfB.start (w : World) (h0 : SLs w w.heap.size AR rs) (h1 : SLs w w.heap.size A1 l1) : VfB w ss A1 AR sA sE sV rs l1 ((w.alloc (.cells ss 37)).alloc (.cells #[.string sA,.string sE,.string sV] 51)):=by
 have hb : Below w.heap.size w ((w.alloc (.cells ss 37)).alloc (.cells #[.string sA,.string sE,.string sV] 51)):=((Below.refl _ _).alloc (Nat.le_refl _) _).alloc (by simp) _
 have e0:=heap_alloc_new w (.cells ss 37)
 have e1:=heap_alloc_new (w.alloc (.cells ss 37)) (.cells #[.string sA,.string sE,.string sV] 51)
 simp only [World.size_alloc] at e1
 exact ⟨(heap_alloc_old _ _ (by simp)).trans e0,e1,h0.below hb,h1.below hb,hb⟩
theorem VfB.sf {ch sl mm mo mg mh wm wo wg wh se at_ ha el es bl ma nm m o z s u h P Q : ByteArray} {nR cR : Nat} (k : VfB w #[.string ch,.string sl,.string mm,.string mo,.string mg,.string mh,.string wm,.string wo,.string wg,.string wh,.string se,.string at_,.string ha,.string el,.string es,.string bl,.string ma,.string nm,.string m,.string o,.string z,.string s,.slice AR nR cR,.string u,.string h,.string P,.string Q] A1 AR sA sE sV rs l1 W) :
  W.cell? ⟨w.heap.size,18,none⟩=some (.string m)∧W.cell? ⟨w.heap.size,19,none⟩=some (.string o)∧W.cell? ⟨w.heap.size,21,none⟩=some (.string s)∧W.cell? ⟨w.heap.size+1,0,none⟩=some (.string sA) :=
 ⟨cell_of_row W _ 18 _ _ _ k.set,cell_of_row W _ 19 _ _ _ k.set,cell_of_row W _ 21 _ _ _ k.set,cell_of_row W _ 0 _ _ _ k.sig⟩
end
theorem law_shifts (ch sl mm mo mg mh wm wo wg wh se at_ ha el es bl ma nm m o z s u h P Q sA sE sV : ByteArray) (AR A1 : Option Addr) (nR cR n1 c1 : Nat) (rs l1 : List ByteArray) (w : World)
  (hnR : rs.length=nR) (hmR : nR≤maxLen) (hn1 : l1.length=n1) (hm1 : n1≤maxLen) (h0 : SLs w w.heap.size AR rs) (h1 : SLs w w.heap.size A1 l1) (hT : Tab w) (hT10 : Tab10 w) :
  Calls Tryz.prog 4 #[.agg #[.string ch,.string sl,.string mm,.string mo,.string mg,.string mh,.string wm,.string wo,.string wg,.string wh,.string se,.string at_,.string ha,.string el,.string es,.string bl,.string ma,.string nm,.string m,.string o,.string z,.string s,.slice AR nR cR,.string u,.string h,.string P,.string Q],.slice A1 n1 c1,.agg #[.string sA,.string sE,.string sV]] w fun e w'=>e=.returned (.bool true)∧Below w.heap.size w w':=by
 have KF:=Lib.hid (fun wq hs hz=>law30_few ch sl mm mo mg mh wm wo wg wh se at_ ha el es bl ma nm m o z s u h P Q AR nR cR w.heap.size rs wq hnR hmR hs hz)
 have KL1:=Lib.hid (fun wq hs=>law30_list l1 A1 n1 c1 w.heap.size wq hn1 hm1 hs)
 have KSH : Hid (∀ (wq : World) A1 b1,SLs wq b1 A1 [sA,sE,sV]→Calls Tryz.prog 12 #[.int .i64 16,.slice A1 3 3] wq fun e w'=>e=.returned (.bool (shS 16 [sA,sE,sV]))∧wq=w'):=Lib.hid (fun wq A1 b1 h1=>law30_short 16 [sA,sE,sV] A1 3 3 b1 wq (by omega) rfl (by unfold maxLen;omega) h1)
 have KAW:=Lib.hid (fun wq (hb : Below w.heap.size w wq)=>law30_awake wq (hT.below hb) (hT10.below hb))
 have HS:=Lib.hid (VfB.start (ss:=#[.string ch,.string sl,.string mm,.string mo,.string mg,.string mh,.string wm,.string wo,.string wg,.string wh,.string se,.string at_,.string ha,.string el,.string es,.string bl,.string ma,.string nm,.string m,.string o,.string z,.string s,.slice AR nR cR,.string u,.string h,.string P,.string Q]) (sA:=sA) (sE:=sE) (sV:=sV) w h0 h1)
 obtain ⟨W0,hW0⟩ : ∃ W0,(w.alloc (.cells #[.string ch,.string sl,.string mm,.string mo,.string mg,.string mh,.string wm,.string wo,.string wg,.string wh,.string se,.string at_,.string ha,.string el,.string es,.string bl,.string ma,.string nm,.string m,.string o,.string z,.string s,.slice AR nR cR,.string u,.string h,.string P,.string Q] 37)).alloc (.cells #[.string sA,.string sE,.string sV] 51)=W0:=⟨_,rfl⟩
 rw [hW0] at HS
 obtain ⟨v0,v1,v2⟩:=HS.out.cells
 have hff:=@few_facts ch sl mm mo mg mh wm wo wg wh se at_ ha el es bl ma nm m o z s u h P Q rs
 have hl1:=@list_len l1
 obtain ⟨b1,hb1⟩ : ∃ b1,setFew ch sl mm mo mg mh wm wo wg wh se at_ ha el es bl ma nm m o z s u h P Q rs=b1:=⟨_,rfl⟩
 obtain ⟨b2,hb2⟩ : ∃ b2,listS l1=b2:=⟨_,rfl⟩
 obtain ⟨b4,hb4⟩ : ∃ b4,shS 16 [sA,sE,sV]=b4:=⟨_,rfl⟩
 simp only [hb1] at KF
 rw [hb1] at hff
 simp only [hb2] at KL1
 rw [hb2] at hl1
 simp only [hb4] at KSH
 have HFF:=Lib.hid hff
 have HLL:=Lib.hid hl1
 have HNN:=Lib.hid (And.intro hnR hn1)
 have HT:=Lib.hid hT
 clear hb1 hb2 hb4 hff hl1 hnR hn1 hmR hm1 h0 h1 hT hT10
 cases b1
 · go_enter Tryz.func4, Tryz.ntmps4
   go_wp2_with (first | (go_at_call 5;(with_reducible refine (KF.out _ HS.out.r0 HS.out.bel.size).mono ?_);rintro e wn ⟨rfl,hb⟩;have HY:=Lib.hid (HS.out.next hb);obtain ⟨v0,v1,v2⟩:=HY.out.cells;clear hb HS;have HS:=HY;clear HY) | (go_at_call 7;(with_reducible refine (KAW.out _ HS.out.bel).mono ?_);rintro e wn ⟨rfl,hb⟩;have HY:=Lib.hid (HS.out.next hb);obtain ⟨v0,v1,v2⟩:=HY.out.cells;clear hb HS;have HS:=HY;clear HY) | (with_reducible refine wpList_look ?_;refine wpList_load_row rfl 37 _ rfl _ rfl 37 #[.string ch,.string sl,.string mm,.string mo,.string mg,.string mh,.string wm,.string wo,.string wg,.string wh,.string se,.string at_,.string ha,.string el,.string es,.string bl,.string ma,.string nm,.string m,.string o,.string z,.string s,.slice AR nR cR,.string u,.string h,.string P,.string Q] (0,0) _ HS.out.set Tryz.underlying37 rfl (c27.trans rfl) ?_))
   go_ret
   exact ⟨rfl,HS.out.bel⟩
 cases b2
 · go_enter Tryz.func4, Tryz.ntmps4
   go_wp2_with (first | (go_at_call 5;(with_reducible refine (KF.out _ HS.out.r0 HS.out.bel.size).mono ?_);rintro e wn ⟨rfl,hb⟩;have HY:=Lib.hid (HS.out.next hb);obtain ⟨v0,v1,v2⟩:=HY.out.cells;clear hb HS;have HS:=HY;clear HY) | (go_at_call 11;(with_reducible refine (KL1.out _ HS.out.r1).mono ?_);rintro e wn ⟨rfl,rfl⟩) | (go_at_call 7;(with_reducible refine (KAW.out _ HS.out.bel).mono ?_);rintro e wn ⟨rfl,hb⟩;have HY:=Lib.hid (HS.out.next hb);obtain ⟨v0,v1,v2⟩:=HY.out.cells;clear hb HS;have HS:=HY;clear HY) | (with_reducible refine wpList_look ?_;refine wpList_load_row rfl 37 _ rfl _ rfl 37 #[.string ch,.string sl,.string mm,.string mo,.string mg,.string mh,.string wm,.string wo,.string wg,.string wh,.string se,.string at_,.string ha,.string el,.string es,.string bl,.string ma,.string nm,.string m,.string o,.string z,.string s,.slice AR nR cR,.string u,.string h,.string P,.string Q] (0,0) _ HS.out.set Tryz.underlying37 rfl (c27.trans rfl) ?_))
   go_ret
   exact ⟨rfl,HS.out.bel⟩
 cases b4
 · go_enter Tryz.func4, Tryz.ntmps4
   go_wp2_with (first | (go_at_call 5;(with_reducible refine (KF.out _ HS.out.r0 HS.out.bel.size).mono ?_);rintro e wn ⟨rfl,hb⟩;have HY:=Lib.hid (HS.out.next hb);obtain ⟨v0,v1,v2⟩:=HY.out.cells;clear hb HS;have HS:=HY;clear HY) | (go_at_call 11;(with_reducible refine (KL1.out _ HS.out.r1).mono ?_);rintro e wn ⟨rfl,rfl⟩) | (go_at_call 12;(refine (KSH.out _ _ _ (SLs.newAt _ 22 [sA,sE,sV] _ rfl)).mono ?_);rintro e wn ⟨rfl,rfl⟩;have HY:=Lib.hid (HS.out.alloc (.cells #[.string sA,.string sE,.string sV] 22));obtain ⟨v0,v1,v2⟩:=HY.out.cells;clear HS;have HS:=HY;clear HY) | (go_at_call 7;(with_reducible refine (KAW.out _ HS.out.bel).mono ?_);rintro e wn ⟨rfl,hb⟩;have HY:=Lib.hid (HS.out.next hb);obtain ⟨v0,v1,v2⟩:=HY.out.cells;clear hb HS;have HS:=HY;clear HY) | (with_reducible refine wpList_look ?_;refine wpList_load_row rfl 37 _ rfl _ rfl 37 #[.string ch,.string sl,.string mm,.string mo,.string mg,.string mh,.string wm,.string wo,.string wg,.string wh,.string se,.string at_,.string ha,.string el,.string es,.string bl,.string ma,.string nm,.string m,.string o,.string z,.string s,.slice AR nR cR,.string u,.string h,.string P,.string Q] (0,0) _ HS.out.set Tryz.underlying37 rfl (c27.trans rfl) ?_))
   go_ret
   exact ⟨rfl,HS.out.bel⟩
 obtain ⟨⟨⟨y1,y2,y3,y4⟩,y5,y6,y7⟩,sm,snm,hR6⟩:=HFF.out rfl
 have hq1:=HLL.out rfl
 obtain ⟨hnR,hn1⟩:=HNN.out
 obtain ⟨PP,hPP⟩ : ∃ PP,parS ch sl mm mo mg mh wm wo wg wh se at_ ha el es bl ma=PP:=⟨_,rfl⟩
 have hpar:=@par_ok ch sl mm mo mg mh wm wo wg wh se at_ ha el es bl ma
 rw [hPP] at hpar
 have KV1:=Lib.hid (fun wq (hb : Below w.heap.size w wq) (hr : SLs wq w.heap.size AR rs) (hs : SLs wq w.heap.size A1 l1)=>cl_Verify PP ch sl mm mo mg mh wm wo wg wh se at_ ha el es bl ma nm m o z s u h sA sE sV AR A1 nR n1 cR c1 rs l1 wq sm (by omega) hnR hn1 (by omega) (by omega) (hr.more hb.size) (hs.more hb.size) (HT.out.below hb) (fun h=>(hpar h).1) (fun wq2 h2=>by
  have:=params_Check ch sl mm mo mg mh wm wo wg wh se at_ ha el es bl ma wq2 y1 y2 y3 y4 (HT.out.below (hb.trans (h2.mono hb.size)))
  rw [hPP] at this
  exact this))
 obtain ⟨K,hK⟩ : ∃ K,K=keyE PP nm m o z s u h rs:=⟨_,rfl⟩
 rw [← hK] at KV1
 obtain ⟨X,hX⟩ : ∃ X,verS K m o s z se ha at_ el es bl sA sE sV rs l1=X:=⟨_,rfl⟩
 rw [hX] at KV1
 by_cases hx : X=0
 · subst hx
   obtain ⟨k0,⟨kv1,kv2⟩,ka1,krg,kp,kA,keq⟩:=ver_ok hX
   have hkey:=keyE_zero (hK.symm.trans k0)
   simp only [List.all_cons,List.all_nil,Bool.and_true,Bool.and_eq_true] at kv2
   have hVl:=valid_num_lt kv2.2.2
   have hEl:=valid_num_lt kv2.2.1
   have KVR : Hid (∀ (r : Nat) (wq : World),num sE*r≤num sV→Below w.heap.size w wq→SLs wq w.heap.size AR rs→SLs wq w.heap.size A1 l1→Calls Tryz.prog 13 #[.agg #[.string ch,.string sl,.string mm,.string mo,.string mg,.string mh,.string wm,.string wo,.string wg,.string wh,.string se,.string at_,.string ha,.string el,.string es,.string bl,.string ma],.agg #[.string nm,.string m,.string o,.string z,.string s,.slice AR nR cR,.string u,.string h],.slice A1 n1 c1,.agg #[.string (B (shA m s sA r)),.string sE,.string (B (num sV - num sE*r))]] wq fun e w'=>e=.returned (.int .i64 0)∧Below wq.heap.size wq w'):=Lib.hid (fun r wq hr hb hr1 hs=>by
    have:=cl_Verify PP ch sl mm mo mg mh wm wo wg wh se at_ ha el es bl ma nm m o z s u h (B (shA m s sA r)) sE (B (num sV - num sE*r)) AR A1 nR n1 cR c1 rs l1 wq sm (by omega) hnR hn1 (by omega) (by omega) (hr1.more hb.size) (hs.more hb.size) (HT.out.below hb) (fun h=>(hpar h).1) (fun wq2 h2=>by
     have:=params_Check ch sl mm mo mg mh wm wo wg wh se at_ ha el es bl ma wq2 y1 y2 y3 y4 (HT.out.below (hb.trans (h2.mono hb.size)))
     rw [hPP] at this
     exact this)
    rw [← hK,shift_law sm hK hX hr] at this
    exact this)
   have KPR : Hid (∀ (r : Nat) (wq : World) ga gz,r≤10→SLs wq wq.heap.size (some ⟨ga,0,none⟩) [sA,s]→ZLs wq wq.heap.size (some ⟨gz,0,none⟩) [(false,B 1),(false,B r)]→Calls Tryz.prog 19 #[.agg #[.string m,.string o],.slice (some ⟨ga,0,none⟩) 2 2,.slice (some ⟨gz,0,none⟩) 2 2] wq fun r' w'=>r'=.returned (.tuple #[.string (B (shA m s sA r)),.int .i64 0])∧Below wq.heap.size wq w'):=Lib.hid (fun r wq ga gz hr h1 h2=>by
    have hall : [sA,s].all (hasG m o)=true:=by simp [kA,hkey.hs]
    have hval : [B 1,B r].all valid=true:=by simp only [List.all_cons,List.all_nil,Bool.and_true,Bool.and_eq_true];exact ⟨by decide,valid_B (Nat.lt_of_le_of_lt hr (by decide))⟩
    have:=power_ProductN m o [sA,s] (posZ [B 1,B r]) (some ⟨ga,0,none⟩) (some ⟨gz,0,none⟩) 2 2 2 wq sm hkey.hg hall (posZ_ok hval) (fun r hr=>gcd_of_has hkey.ho (List.all_eq_true.1 hall r hr)) rfl rfl (by omega) hkey.two h1 h2
    rw [zipB_pos (num m) [sA,s] [B 1,B r] rfl] at this
    have e:=shA_form m s sA r
    unfold msgV at e
    rw [e] at this
    exact this)
   have hE2 : 0 < num sE:=by
    rcases Nat.eq_zero_or_pos (num sE) with e | e
    · exfalso
      have h1:=kp.2
      rw [← B_num kv2.2.1,e] at h1
      exact absurd h1 (by decide +kernel)
    · exact e
   obtain ⟨q,hq⟩ : ∃ q,q=num sV / num sE:=⟨_,rfl⟩
   have hqV : num sE*q≤num sV:=by rw [hq];exact Nat.mul_div_le _ _
   have hql : q < lim:=by rw [hq];exact Nat.lt_of_le_of_lt (Nat.div_le_self _ _) hVl
   have eE:=B_num kv2.2.1
   have eV:=B_num kv2.2.2
   have KDM : Hid (∀ wq,Calls Tryz.prog 14 #[.string sV,.string sE] wq fun e w'=>e=.returned (.tuple #[.string (B q),.string (B (num sV % num sE)),.int .i64 0])∧Below wq.heap.size wq w'):=Lib.hid (fun wq=>by
    have:=natural_DivModA (num sV) (num sE) wq hVl hEl hE2
    rw [eE,eV,← hq] at this
    exact this)
   have KOF : Hid (∀ (r : Nat) (wq : World),r≤10→Calls Tryz.prog 17 #[.int .u64 (r : Int)] wq fun e w'=>e=.returned (.string (B r))∧Below wq.heap.size wq w'):=Lib.hid (fun r wq hr=>natural_Of r wq (Nat.lt_of_le_of_lt hr (by decide)))
   have KMU : Hid (∀ (r : Nat) (wq : World),num sE*r≤num sV→Calls Tryz.prog 16 #[.string sE,.string (B r)] wq fun e w'=>e=.returned (.tuple #[.string (B (num sE*r)),.int .i64 0])∧Below wq.heap.size wq w'):=Lib.hid (fun r wq hr=>by
    have hrl : r < lim:=Nat.lt_of_le_of_lt (Nat.le_mul_of_pos_left r hE2) (Nat.lt_of_le_of_lt hr hVl)
    have:=natural_Mul' (num sE) r wq hEl hrl (Nat.lt_of_le_of_lt hr hVl)
    rw [eE] at this
    exact this)
   have KSU : Hid (∀ (r : Nat) (wq : World),num sE*r≤num sV→Calls Tryz.prog 18 #[.string sV,.string (B (num sE*r))] wq fun e w'=>e=.returned (.tuple #[.string (B (num sV - num sE*r)),.int .i64 0])∧Below wq.heap.size wq w'):=Lib.hid (fun r wq hr=>by
    have:=natural_Sub' (num sV) (num sE*r) wq hVl hr
    rw [eV] at this
    exact this)
   have KIO:=Lib.hid integer_OfN
   have KSM0:=fun wq=>natural_Small (B q) wq
   obtain ⟨sq,hsq⟩ : ∃ sq,(natSmall (B q)).1=sq:=⟨_,rfl⟩
   obtain ⟨okq,hokq⟩ : ∃ okq,(natSmall (B q)).2=okq:=⟨_,rfl⟩
   have hsm : okq=true→sq=q:=by
    intro h
    rw [← hokq] at h
    rw [← hsq]
    unfold natSmall at h ⊢
    split at h
    · rename_i h1;rw [if_pos h1];exact num_B q
    · cases h
   rw [hsq,hokq] at KSM0
   have hsl : sq < 18446744073709551616:=by
    rw [← hsq]
    unfold natSmall
    split
    · rename_i h1
      rw [Bool.and_eq_true,decide_eq_true_eq] at h1
      show num (B q) < _
      rw [num_B]
      exact B_size_le'.1 h1.2
    · decide
   have KSM:=Lib.hid KSM0
   obtain ⟨nn,hn10,hnq,hcase⟩ : ∃ nn : Nat,nn≤10∧num sE*nn≤num sV∧((okq=true∧sq≤10∧nn=sq)∨(okq=true∧10 < sq∧nn=10)∨(okq=false∧nn=10∧10≤q)):=by
    cases okq
    · have h8 : 10≤q:=by
       rcases Nat.lt_or_ge q 10 with h | h
       · exfalso
         have h1 : (natSmall (B q)).2=true:=by
          unfold natSmall
          rw [valid_B hql,decide_eq_true (B_size_le'.2 (by omega))]
          rfl
         rw [hokq] at h1
         cases h1
       · exact h
      exact ⟨10,Nat.le_refl _,Nat.le_trans (Nat.mul_le_mul_left _ h8) hqV,.inr (.inr ⟨rfl,rfl,h8⟩)⟩
    · have h7:=hsm rfl
      by_cases h : sq≤10
      · exact ⟨sq,h,by rw [h7];exact hqV,.inl ⟨rfl,h,rfl⟩⟩
      · exact ⟨10,Nat.le_refl _,Nat.le_trans (Nat.mul_le_mul_left _ (show 10≤q by omega)) hqV,.inr (.inl ⟨rfl,by omega,rfl⟩)⟩
   have HN10:=Lib.hid hn10
   have HNQ:=Lib.hid hnq
   clear hq hqV hql hsm hE2 eE eV hVl hEl kv1 kv2 ka1 krg kp kA keq k0 hkey KSM0 hsq hokq hX hK hpar hPP y1 y2 y3 y4 y5 y6 y7 sm snm hR6 hq1 hnR hn1 HFF HLL HNN hn10 hnq
   have HRL : Hid (∀ x : Nat,x≤10→(x : Int)≤10):=Lib.hid (fun x h=>by omega)
   have HRG : Hid (∀ x : Nat,10 < x→(10 : Int) < x):=Lib.hid (fun x h=>by omega)
   rcases hcase with ⟨rfl,cq,hs⟩ | ⟨rfl,cq,hs⟩ | ⟨rfl,hs,cq⟩
   · have cr:=HRL.out _ cq
     have HN10 : Hid (sq≤10):=Lib.hid cq
     have HNQ : Hid (num sE*sq≤num sV):=Lib.hid (by rw [← hs];exact HNQ.out)
     clear hs
     go_enter Tryz.func4, Tryz.ntmps4
     go_wp2_with (first | (go_at_call 5;(with_reducible refine (KF.out _ HS.out.r0 HS.out.bel.size).mono ?_);rintro e wn ⟨rfl,hb⟩;have HY:=Lib.hid (HS.out.next hb);obtain ⟨v0,v1,v2⟩:=HY.out.cells;clear hb HS;have HS:=HY;clear HY) | (go_at_call 11;(with_reducible refine (KL1.out _ HS.out.r1).mono ?_);rintro e wn ⟨rfl,rfl⟩) | (go_at_call 12;(refine (KSH.out _ _ _ (SLs.newAt _ 22 [sA,sE,sV] _ rfl)).mono ?_);rintro e wn ⟨rfl,rfl⟩;have HY:=Lib.hid (HS.out.alloc (.cells #[.string sA,.string sE,.string sV] 22));obtain ⟨v0,v1,v2⟩:=HY.out.cells;clear HS;have HS:=HY;clear HY) | (go_at_call 13;(with_reducible refine (KV1.out _ HS.out.bel HS.out.r0 HS.out.r1).mono ?_);rintro e wn ⟨rfl,hb⟩;have HY:=Lib.hid (HS.out.next hb);obtain ⟨v0,v1,v2⟩:=HY.out.cells;clear hb HS;have HS:=HY;clear HY) | (go_at_call 14;(with_reducible refine (KDM.out _).mono ?_);rintro e wn ⟨rfl,hb⟩;have HY:=Lib.hid (HS.out.next hb);obtain ⟨v0,v1,v2⟩:=HY.out.cells;clear hb HS;have HS:=HY;clear HY) | (go_at_call 15;(with_reducible refine (KSM.out _).mono ?_);rintro e wn ⟨rfl,rfl⟩) | (with_reducible refine wpList_look ?_;refine wpList_load_row rfl 37 _ rfl _ rfl 37 #[.string ch,.string sl,.string mm,.string mo,.string mg,.string mh,.string wm,.string wo,.string wg,.string wh,.string se,.string at_,.string ha,.string el,.string es,.string bl,.string ma,.string nm,.string m,.string o,.string z,.string s,.slice AR nR cR,.string u,.string h,.string P,.string Q] (0,0) _ HS.out.set Tryz.underlying37 rfl (c27.trans rfl) ?_) | (with_reducible refine wpList_look ?_;refine wpList_load_sub rfl 30 _ rfl _ 0 rfl 37 #[.string ch,.string sl,.string mm,.string mo,.string mg,.string mh,.string wm,.string wo,.string wg,.string wh,.string se,.string at_,.string ha,.string el,.string es,.string bl,.string ma] #[.string ch,.string sl,.string mm,.string mo,.string mg,.string mh,.string wm,.string wo,.string wg,.string wh,.string se,.string at_,.string ha,.string el,.string es,.string bl,.string ma,.string nm,.string m,.string o,.string z,.string s,.slice AR nR cR,.string u,.string h,.string P,.string Q] (0,0) _ HS.out.set ext_par Tryz.underlying30 rfl (info17'.trans rfl) ?_) | (with_reducible refine wpList_look ?_;refine wpList_load_sub rfl 33 _ rfl _ 17 rfl 37 #[.string nm,.string m,.string o,.string z,.string s,.slice AR nR cR,.string u,.string h] #[.string ch,.string sl,.string mm,.string mo,.string mg,.string mh,.string wm,.string wo,.string wg,.string wh,.string se,.string at_,.string ha,.string el,.string es,.string bl,.string ma,.string nm,.string m,.string o,.string z,.string s,.slice AR nR cR,.string u,.string h,.string P,.string Q] (0,0) _ HS.out.set ext_key Tryz.underlying33 rfl (info8'.trans rfl) ?_) | (with_reducible refine wpList_look ?_;refine wpList_load_row rfl 51 _ rfl _ rfl 51 #[.string sA,.string sE,.string sV] (0,0) _ HS.out.sig Tryz.underlying51 rfl (info3s'.trans rfl) ?_))
     have HS0:=HS
     clear HS v0 v1 v2
     go_loopw [12] (fun v wr=>∃ r : Nat,r≤sq+1∧v=.int .u64 r∧VfB w #[.string ch,.string sl,.string mm,.string mo,.string mg,.string mh,.string wm,.string wo,.string wg,.string wh,.string se,.string at_,.string ha,.string el,.string es,.string bl,.string ma,.string nm,.string m,.string o,.string z,.string s,.slice AR nR cR,.string u,.string h,.string P,.string Q] A1 AR sA sE sV rs l1 wr) (fun v _=>sq+1 - (intOf v).toNat)
     case atStart=>exact ⟨0,Nat.zero_le _,rfl,HS0.out⟩
     case round =>
      clear HS0
      obtain ⟨r,hr,rfl,hvf⟩:=hrel
      have HS:=Lib.hid hvf
      obtain ⟨v0,v1,v2⟩:=hvf.cells
      clear hvf
      by_cases hlt : r≤sq
      · have hr10 : r≤10:=Nat.le_trans hlt HN10.out
        have HR10:=Lib.hid hr10
        have HRE : Hid (num sE*r≤num sV):=Lib.hid (Nat.le_trans (Nat.mul_le_mul_left _ hlt) HNQ.out)
        have HLT:=Lib.hid hlt
        have hlti : (r : Int)≤(sq : Int):=by omega
        obtain ⟨dd,hdd⟩ : ∃ dd,B (num sE*r)=dd:=⟨_,rfl⟩
        obtain ⟨vv,hvv⟩ : ∃ vv,B (num sV - num sE*r)=vv:=⟨_,rfl⟩
        obtain ⟨aa,haa⟩ : ∃ aa,B (shA m s sA r)=aa:=⟨_,rfl⟩
        obtain ⟨br,hbr⟩ : ∃ br,B r=br:=⟨_,rfl⟩
        have KOr : Hid (∀ wq,Calls Tryz.prog 17 #[.int .u64 (r : Int)] wq fun e w'=>e=.returned (.string br)∧Below wq.heap.size wq w'):=Lib.hid (fun wq=>by rw [← hbr];exact KOF.out r wq hr10)
        have KMr : Hid (∀ wq,Calls Tryz.prog 16 #[.string sE,.string br] wq fun e w'=>e=.returned (.tuple #[.string dd,.int .i64 0])∧Below wq.heap.size wq w'):=Lib.hid (fun wq=>by rw [← hdd,← hbr];exact KMU.out r wq HRE.out)
        have KSr : Hid (∀ wq,Calls Tryz.prog 18 #[.string sV,.string dd] wq fun e w'=>e=.returned (.tuple #[.string vv,.int .i64 0])∧Below wq.heap.size wq w'):=Lib.hid (fun wq=>by rw [← hvv,← hdd];exact KSU.out r wq HRE.out)
        have KIr : Hid (∀ (z : Int) wq,z=(r : Int)→Calls Tryz.prog 20 #[.int .i64 z] wq fun e w'=>e=.returned (.agg #[.bool false,.string br])∧Below wq.heap.size wq w'):=Lib.hid (fun z wq hz=>by rw [← hbr,hz];exact KIO.out r wq hr10)
        have KI1 : Hid (∀ wq,Calls Tryz.prog 20 #[.int .i64 1] wq fun e w'=>e=.returned (.agg #[.bool false,.string (B 1)])∧Below wq.heap.size wq w'):=Lib.hid (fun wq=>KIO.out 1 wq (by decide))
        have KPr : Hid (∀ (wq : World) ga gz,SLs wq wq.heap.size (some ⟨ga,0,none⟩) [sA,s]→ZLs wq wq.heap.size (some ⟨gz,0,none⟩) [(false,B 1),(false,br)]→Calls Tryz.prog 19 #[.agg #[.string m,.string o],.slice (some ⟨ga,0,none⟩) 2 2,.slice (some ⟨gz,0,none⟩) 2 2] wq fun r' w'=>r'=.returned (.tuple #[.string aa,.int .i64 0])∧Below wq.heap.size wq w'):=Lib.hid (fun wq ga gz h1 h2=>by rw [← haa];rw [← hbr] at h2;exact KPR.out r wq ga gz hr10 h1 h2)
        have KVr : Hid (∀ (wq : World),Below w.heap.size w wq→SLs wq w.heap.size AR rs→SLs wq w.heap.size A1 l1→Calls Tryz.prog 13 #[.agg #[.string ch,.string sl,.string mm,.string mo,.string mg,.string mh,.string wm,.string wo,.string wg,.string wh,.string se,.string at_,.string ha,.string el,.string es,.string bl,.string ma],.agg #[.string nm,.string m,.string o,.string z,.string s,.slice AR nR cR,.string u,.string h],.slice A1 n1 c1,.agg #[.string aa,.string sE,.string vv]] wq fun e w'=>e=.returned (.int .i64 0)∧Below wq.heap.size wq w'):=Lib.hid (fun wq h1 h2 h3=>by rw [← haa,← hvv];exact KVR.out r wq HRE.out h1 h2 h3)
        obtain ⟨b1,hb1⟩ : ∃ b1,B 1=b1:=⟨_,rfl⟩
        rw [hb1] at KPr KI1
        clear hdd hvv haa hbr hb1 hlt KOF KMU KSU KIO KPR KVR
        go_wp2_with fail
        go_region_with (first | (go_at_call 17;(with_reducible refine (KOr.out _).mono ?_);rintro e wn ⟨rfl,hb⟩;have HY : Hid (VfB w #[.string ch,.string sl,.string mm,.string mo,.string mg,.string mh,.string wm,.string wo,.string wg,.string wh,.string se,.string at_,.string ha,.string el,.string es,.string bl,.string ma,.string nm,.string m,.string o,.string z,.string s,.slice AR nR cR,.string u,.string h,.string P,.string Q] A1 AR sA sE sV rs l1 wn):=Lib.hid (by first | exact HS.out.next hb | exact HS.out.drew.next hb);obtain ⟨v0,v1,v2⟩:=HY.out.cells;clear hb HS;have HS:=HY;clear HY) | (go_at_call 16;(with_reducible refine (KMr.out _).mono ?_);rintro e wn ⟨rfl,hb⟩;have HY : Hid (VfB w #[.string ch,.string sl,.string mm,.string mo,.string mg,.string mh,.string wm,.string wo,.string wg,.string wh,.string se,.string at_,.string ha,.string el,.string es,.string bl,.string ma,.string nm,.string m,.string o,.string z,.string s,.slice AR nR cR,.string u,.string h,.string P,.string Q] A1 AR sA sE sV rs l1 wn):=Lib.hid (by first | exact HS.out.next hb | exact HS.out.drew.next hb);obtain ⟨v0,v1,v2⟩:=HY.out.cells;clear hb HS;have HS:=HY;clear HY))
        all_goals
         go_upto_region 16 with (go_at_call 18;(with_reducible refine (KSr.out _).mono ?_);rintro e wn ⟨rfl,hb⟩;have HY:=Lib.hid (HS.out.next hb);obtain ⟨v0,v1,v2⟩:=HY.out.cells;clear hb HS;have HS:=HY;clear HY)
         go_cut [17,18] (fun x er wx=>x=.string aa∧er=.int .i64 0∧VfB w #[.string ch,.string sl,.string mm,.string mo,.string mg,.string mh,.string wm,.string wo,.string wg,.string wh,.string se,.string at_,.string ha,.string el,.string es,.string bl,.string ma,.string nm,.string m,.string o,.string z,.string s,.slice AR nR cR,.string u,.string h,.string P,.string Q] A1 AR sA sE sV rs l1 wx)
         case first =>
          have HQ:=HS
          clear HS v0 v1 v2
          go_region_held3 (fun w'=>w'.cell? ⟨w.heap.size,18,none⟩=some (.string m)∧w'.cell? ⟨w.heap.size,19,none⟩=some (.string o)∧w'.cell? ⟨w.heap.size,21,none⟩=some (.string s)∧w'.cell? ⟨w.heap.size+1,0,none⟩=some (.string sA)) (first | exact HQ.out.sf | exact ((HQ.out.alloc _).drew).sf | exact (((HQ.out.alloc _).alloc _).drew).sf | exact HQ.out.drew.sf | exact (HQ.out.alloc _).sf | exact (HQ.out.drew.alloc _).sf | exact ((HQ.out.alloc _).alloc _).sf | exact ((HQ.out.drew.alloc _).alloc _).sf) (first | (go_at_call 20;(with_reducible refine (KI1.out _).mono ?_);rintro e wi ⟨rfl,hbq⟩;have nq : VfB w #[.string ch,.string sl,.string mm,.string mo,.string mg,.string mh,.string wm,.string wo,.string wg,.string wh,.string se,.string at_,.string ha,.string el,.string es,.string bl,.string ma,.string nm,.string m,.string o,.string z,.string s,.slice AR nR cR,.string u,.string h,.string P,.string Q] A1 AR sA sE sV rs l1 wi:=(by (first | exact HQ.out.next hbq | exact ((HQ.out.alloc _).drew).next hbq | exact (((HQ.out.alloc _).alloc _).drew).next hbq | exact HQ.out.drew.next hbq | exact (HQ.out.alloc _).next hbq | exact (HQ.out.drew.alloc _).next hbq | exact ((HQ.out.alloc _).alloc _).next hbq | exact ((HQ.out.drew.alloc _).alloc _).next hbq));(first | (have RA:=Lib.hid ((hbq.block _ (by simp)).trans (heap_alloc_new _ (.cells #[.string sA,.string s] 22)))) | (have RA:=Lib.hid ((hbq.block _ (Array.getElem?_eq_some_iff.1 RA.out).1).trans RA.out)) | skip);have HQ:=Lib.hid nq;clear nq hbq) | (go_at_call 20;(with_reducible refine (KIr.out _ _ (by first | rfl | exact IntWalk.i64_in _ (by omega))).mono ?_);rintro e wi ⟨rfl,hbq⟩;have nq : VfB w #[.string ch,.string sl,.string mm,.string mo,.string mg,.string mh,.string wm,.string wo,.string wg,.string wh,.string se,.string at_,.string ha,.string el,.string es,.string bl,.string ma,.string nm,.string m,.string o,.string z,.string s,.slice AR nR cR,.string u,.string h,.string P,.string Q] A1 AR sA sE sV rs l1 wi:=(by (first | exact HQ.out.next hbq | exact ((HQ.out.alloc _).drew).next hbq | exact (((HQ.out.alloc _).alloc _).drew).next hbq | exact HQ.out.drew.next hbq | exact (HQ.out.alloc _).next hbq | exact (HQ.out.drew.alloc _).next hbq | exact ((HQ.out.alloc _).alloc _).next hbq | exact ((HQ.out.drew.alloc _).alloc _).next hbq));(first | (have RA:=Lib.hid ((hbq.block _ (by simp)).trans (heap_alloc_new _ (.cells #[.string sA,.string s] 22)))) | (have RA:=Lib.hid ((hbq.block _ (Array.getElem?_eq_some_iff.1 RA.out).1).trans RA.out)) | skip);have HQ:=Lib.hid nq;clear nq hbq) | (go_at_call 19;(refine (KPr.out _ _ _ (sls_row2 (by (first | exact heap_alloc_new _ _ | exact heap_alloc2_new _ _ _ | exact heap_alloc2_old _ _ _ | exact (heap_alloc_old _ _ (Array.getElem?_eq_some_iff.1 RA.out).1).trans RA.out))) (zls_row2 (by (first | exact heap_alloc_new _ _ | exact heap_alloc2_new _ _ _ | exact heap_alloc2_old _ _ _ | exact (heap_alloc_old _ _ (Array.getElem?_eq_some_iff.1 RA.out).1).trans RA.out)))).mono ?_);rintro e wp ⟨rfl,hbq⟩;have nq : VfB w #[.string ch,.string sl,.string mm,.string mo,.string mg,.string mh,.string wm,.string wo,.string wg,.string wh,.string se,.string at_,.string ha,.string el,.string es,.string bl,.string ma,.string nm,.string m,.string o,.string z,.string s,.slice AR nR cR,.string u,.string h,.string P,.string Q] A1 AR sA sE sV rs l1 wp:=(by (first | exact HQ.out.next hbq | exact ((HQ.out.alloc _).drew).next hbq | exact (((HQ.out.alloc _).alloc _).drew).next hbq | exact HQ.out.drew.next hbq | exact (HQ.out.alloc _).next hbq | exact (HQ.out.drew.alloc _).next hbq | exact ((HQ.out.alloc _).alloc _).next hbq | exact ((HQ.out.drew.alloc _).alloc _).next hbq));have HQ9:=Lib.hid nq;have HQ:=HQ9;clear nq hbq))
          all_goals
           go_wp2_with fail
           go_meet
           exact ⟨rfl,rfl,HQ9.out⟩
         case rest =>
          obtain ⟨rfl,rfl,hcut⟩:=hcut
          clear HS v0 v1 v2
          have HS:=Lib.hid hcut
          obtain ⟨v0,v1,v2⟩:=hcut.cells
          clear hcut
          go_wp2_with (first | (go_at_call 13;(with_reducible refine (KVr.out _ HS.out.bel HS.out.r0 HS.out.r1).mono ?_);rintro e wn ⟨rfl,hb⟩;have HY:=Lib.hid (HS.out.next hb);obtain ⟨v0,v1,v2⟩:=HY.out.cells;clear hb HS;have HS:=HY;clear HY) | (with_reducible refine wpList_look ?_;refine wpList_load_sub rfl 30 _ rfl _ 0 rfl 37 #[.string ch,.string sl,.string mm,.string mo,.string mg,.string mh,.string wm,.string wo,.string wg,.string wh,.string se,.string at_,.string ha,.string el,.string es,.string bl,.string ma] #[.string ch,.string sl,.string mm,.string mo,.string mg,.string mh,.string wm,.string wo,.string wg,.string wh,.string se,.string at_,.string ha,.string el,.string es,.string bl,.string ma,.string nm,.string m,.string o,.string z,.string s,.slice AR nR cR,.string u,.string h,.string P,.string Q] (0,0) _ HS.out.set ext_par Tryz.underlying30 rfl (info17'.trans rfl) ?_) | (with_reducible refine wpList_look ?_;refine wpList_load_sub rfl 33 _ rfl _ 17 rfl 37 #[.string nm,.string m,.string o,.string z,.string s,.slice AR nR cR,.string u,.string h] #[.string ch,.string sl,.string mm,.string mo,.string mg,.string mh,.string wm,.string wo,.string wg,.string wh,.string se,.string at_,.string ha,.string el,.string es,.string bl,.string ma,.string nm,.string m,.string o,.string z,.string s,.slice AR nR cR,.string u,.string h,.string P,.string Q] (0,0) _ HS.out.set ext_key Tryz.underlying33 rfl (info8'.trans rfl) ?_))
          go_roundw
          case rel=>exact ⟨r+1,by have:=HLT.out;omega,by go_num,HS.out⟩
          case measure=>simp [intOf];have:=HLT.out;omega
      · have hlti : ¬ (r : Int)≤(sq : Int):=by omega
        clear hlt
        go_wp2_with (go_at_call 7;(with_reducible refine (KAW.out _ HS.out.bel).mono ?_);rintro e wn ⟨rfl,hb⟩;have HY:=Lib.hid (HS.out.next hb);obtain ⟨v0,v1,v2⟩:=HY.out.cells;clear hb HS;have HS:=HY;clear HY)
        go_ret
        exact ⟨rfl,HS.out.bel⟩
   · have cr:=HRG.out _ cq
     have HN10 : Hid (10≤10):=Lib.hid (Nat.le_refl _)
     have HNQ : Hid (num sE*10≤num sV):=Lib.hid (by rw [← hs];exact HNQ.out)
     clear hs
     go_enter Tryz.func4, Tryz.ntmps4
     go_wp2_with (first | (go_at_call 5;(with_reducible refine (KF.out _ HS.out.r0 HS.out.bel.size).mono ?_);rintro e wn ⟨rfl,hb⟩;have HY:=Lib.hid (HS.out.next hb);obtain ⟨v0,v1,v2⟩:=HY.out.cells;clear hb HS;have HS:=HY;clear HY) | (go_at_call 11;(with_reducible refine (KL1.out _ HS.out.r1).mono ?_);rintro e wn ⟨rfl,rfl⟩) | (go_at_call 12;(refine (KSH.out _ _ _ (SLs.newAt _ 22 [sA,sE,sV] _ rfl)).mono ?_);rintro e wn ⟨rfl,rfl⟩;have HY:=Lib.hid (HS.out.alloc (.cells #[.string sA,.string sE,.string sV] 22));obtain ⟨v0,v1,v2⟩:=HY.out.cells;clear HS;have HS:=HY;clear HY) | (go_at_call 13;(with_reducible refine (KV1.out _ HS.out.bel HS.out.r0 HS.out.r1).mono ?_);rintro e wn ⟨rfl,hb⟩;have HY:=Lib.hid (HS.out.next hb);obtain ⟨v0,v1,v2⟩:=HY.out.cells;clear hb HS;have HS:=HY;clear HY) | (go_at_call 14;(with_reducible refine (KDM.out _).mono ?_);rintro e wn ⟨rfl,hb⟩;have HY:=Lib.hid (HS.out.next hb);obtain ⟨v0,v1,v2⟩:=HY.out.cells;clear hb HS;have HS:=HY;clear HY) | (go_at_call 15;(with_reducible refine (KSM.out _).mono ?_);rintro e wn ⟨rfl,rfl⟩) | (with_reducible refine wpList_look ?_;refine wpList_load_row rfl 37 _ rfl _ rfl 37 #[.string ch,.string sl,.string mm,.string mo,.string mg,.string mh,.string wm,.string wo,.string wg,.string wh,.string se,.string at_,.string ha,.string el,.string es,.string bl,.string ma,.string nm,.string m,.string o,.string z,.string s,.slice AR nR cR,.string u,.string h,.string P,.string Q] (0,0) _ HS.out.set Tryz.underlying37 rfl (c27.trans rfl) ?_) | (with_reducible refine wpList_look ?_;refine wpList_load_sub rfl 30 _ rfl _ 0 rfl 37 #[.string ch,.string sl,.string mm,.string mo,.string mg,.string mh,.string wm,.string wo,.string wg,.string wh,.string se,.string at_,.string ha,.string el,.string es,.string bl,.string ma] #[.string ch,.string sl,.string mm,.string mo,.string mg,.string mh,.string wm,.string wo,.string wg,.string wh,.string se,.string at_,.string ha,.string el,.string es,.string bl,.string ma,.string nm,.string m,.string o,.string z,.string s,.slice AR nR cR,.string u,.string h,.string P,.string Q] (0,0) _ HS.out.set ext_par Tryz.underlying30 rfl (info17'.trans rfl) ?_) | (with_reducible refine wpList_look ?_;refine wpList_load_sub rfl 33 _ rfl _ 17 rfl 37 #[.string nm,.string m,.string o,.string z,.string s,.slice AR nR cR,.string u,.string h] #[.string ch,.string sl,.string mm,.string mo,.string mg,.string mh,.string wm,.string wo,.string wg,.string wh,.string se,.string at_,.string ha,.string el,.string es,.string bl,.string ma,.string nm,.string m,.string o,.string z,.string s,.slice AR nR cR,.string u,.string h,.string P,.string Q] (0,0) _ HS.out.set ext_key Tryz.underlying33 rfl (info8'.trans rfl) ?_) | (with_reducible refine wpList_look ?_;refine wpList_load_row rfl 51 _ rfl _ rfl 51 #[.string sA,.string sE,.string sV] (0,0) _ HS.out.sig Tryz.underlying51 rfl (info3s'.trans rfl) ?_))
     have HS0:=HS
     clear HS v0 v1 v2
     go_loopw [12] (fun v wr=>∃ r : Nat,r≤10+1∧v=.int .u64 r∧VfB w #[.string ch,.string sl,.string mm,.string mo,.string mg,.string mh,.string wm,.string wo,.string wg,.string wh,.string se,.string at_,.string ha,.string el,.string es,.string bl,.string ma,.string nm,.string m,.string o,.string z,.string s,.slice AR nR cR,.string u,.string h,.string P,.string Q] A1 AR sA sE sV rs l1 wr) (fun v _=>10+1 - (intOf v).toNat)
     case atStart=>exact ⟨0,Nat.zero_le _,rfl,HS0.out⟩
     case round =>
      clear HS0
      obtain ⟨r,hr,rfl,hvf⟩:=hrel
      have HS:=Lib.hid hvf
      obtain ⟨v0,v1,v2⟩:=hvf.cells
      clear hvf
      by_cases hlt : r≤10
      · have hr10 : r≤10:=Nat.le_trans hlt HN10.out
        have HR10:=Lib.hid hr10
        have HRE : Hid (num sE*r≤num sV):=Lib.hid (Nat.le_trans (Nat.mul_le_mul_left _ hlt) HNQ.out)
        have HLT:=Lib.hid hlt
        have hlti : (r : Int)≤10:=by omega
        obtain ⟨dd,hdd⟩ : ∃ dd,B (num sE*r)=dd:=⟨_,rfl⟩
        obtain ⟨vv,hvv⟩ : ∃ vv,B (num sV - num sE*r)=vv:=⟨_,rfl⟩
        obtain ⟨aa,haa⟩ : ∃ aa,B (shA m s sA r)=aa:=⟨_,rfl⟩
        obtain ⟨br,hbr⟩ : ∃ br,B r=br:=⟨_,rfl⟩
        have KOr : Hid (∀ wq,Calls Tryz.prog 17 #[.int .u64 (r : Int)] wq fun e w'=>e=.returned (.string br)∧Below wq.heap.size wq w'):=Lib.hid (fun wq=>by rw [← hbr];exact KOF.out r wq hr10)
        have KMr : Hid (∀ wq,Calls Tryz.prog 16 #[.string sE,.string br] wq fun e w'=>e=.returned (.tuple #[.string dd,.int .i64 0])∧Below wq.heap.size wq w'):=Lib.hid (fun wq=>by rw [← hdd,← hbr];exact KMU.out r wq HRE.out)
        have KSr : Hid (∀ wq,Calls Tryz.prog 18 #[.string sV,.string dd] wq fun e w'=>e=.returned (.tuple #[.string vv,.int .i64 0])∧Below wq.heap.size wq w'):=Lib.hid (fun wq=>by rw [← hvv,← hdd];exact KSU.out r wq HRE.out)
        have KIr : Hid (∀ (z : Int) wq,z=(r : Int)→Calls Tryz.prog 20 #[.int .i64 z] wq fun e w'=>e=.returned (.agg #[.bool false,.string br])∧Below wq.heap.size wq w'):=Lib.hid (fun z wq hz=>by rw [← hbr,hz];exact KIO.out r wq hr10)
        have KI1 : Hid (∀ wq,Calls Tryz.prog 20 #[.int .i64 1] wq fun e w'=>e=.returned (.agg #[.bool false,.string (B 1)])∧Below wq.heap.size wq w'):=Lib.hid (fun wq=>KIO.out 1 wq (by decide))
        have KPr : Hid (∀ (wq : World) ga gz,SLs wq wq.heap.size (some ⟨ga,0,none⟩) [sA,s]→ZLs wq wq.heap.size (some ⟨gz,0,none⟩) [(false,B 1),(false,br)]→Calls Tryz.prog 19 #[.agg #[.string m,.string o],.slice (some ⟨ga,0,none⟩) 2 2,.slice (some ⟨gz,0,none⟩) 2 2] wq fun r' w'=>r'=.returned (.tuple #[.string aa,.int .i64 0])∧Below wq.heap.size wq w'):=Lib.hid (fun wq ga gz h1 h2=>by rw [← haa];rw [← hbr] at h2;exact KPR.out r wq ga gz hr10 h1 h2)
        have KVr : Hid (∀ (wq : World),Below w.heap.size w wq→SLs wq w.heap.size AR rs→SLs wq w.heap.size A1 l1→Calls Tryz.prog 13 #[.agg #[.string ch,.string sl,.string mm,.string mo,.string mg,.string mh,.string wm,.string wo,.string wg,.string wh,.string se,.string at_,.string ha,.string el,.string es,.string bl,.string ma],.agg #[.string nm,.string m,.string o,.string z,.string s,.slice AR nR cR,.string u,.string h],.slice A1 n1 c1,.agg #[.string aa,.string sE,.string vv]] wq fun e w'=>e=.returned (.int .i64 0)∧Below wq.heap.size wq w'):=Lib.hid (fun wq h1 h2 h3=>by rw [← haa,← hvv];exact KVR.out r wq HRE.out h1 h2 h3)
        obtain ⟨b1,hb1⟩ : ∃ b1,B 1=b1:=⟨_,rfl⟩
        rw [hb1] at KPr KI1
        clear hdd hvv haa hbr hb1 hlt KOF KMU KSU KIO KPR KVR
        go_wp2_with fail
        go_region_with (first | (go_at_call 17;(with_reducible refine (KOr.out _).mono ?_);rintro e wn ⟨rfl,hb⟩;have HY : Hid (VfB w #[.string ch,.string sl,.string mm,.string mo,.string mg,.string mh,.string wm,.string wo,.string wg,.string wh,.string se,.string at_,.string ha,.string el,.string es,.string bl,.string ma,.string nm,.string m,.string o,.string z,.string s,.slice AR nR cR,.string u,.string h,.string P,.string Q] A1 AR sA sE sV rs l1 wn):=Lib.hid (by first | exact HS.out.next hb | exact HS.out.drew.next hb);obtain ⟨v0,v1,v2⟩:=HY.out.cells;clear hb HS;have HS:=HY;clear HY) | (go_at_call 16;(with_reducible refine (KMr.out _).mono ?_);rintro e wn ⟨rfl,hb⟩;have HY : Hid (VfB w #[.string ch,.string sl,.string mm,.string mo,.string mg,.string mh,.string wm,.string wo,.string wg,.string wh,.string se,.string at_,.string ha,.string el,.string es,.string bl,.string ma,.string nm,.string m,.string o,.string z,.string s,.slice AR nR cR,.string u,.string h,.string P,.string Q] A1 AR sA sE sV rs l1 wn):=Lib.hid (by first | exact HS.out.next hb | exact HS.out.drew.next hb);obtain ⟨v0,v1,v2⟩:=HY.out.cells;clear hb HS;have HS:=HY;clear HY))
        all_goals
         go_upto_region 16 with (go_at_call 18;(with_reducible refine (KSr.out _).mono ?_);rintro e wn ⟨rfl,hb⟩;have HY:=Lib.hid (HS.out.next hb);obtain ⟨v0,v1,v2⟩:=HY.out.cells;clear hb HS;have HS:=HY;clear HY)
         go_cut [17,18] (fun x er wx=>x=.string aa∧er=.int .i64 0∧VfB w #[.string ch,.string sl,.string mm,.string mo,.string mg,.string mh,.string wm,.string wo,.string wg,.string wh,.string se,.string at_,.string ha,.string el,.string es,.string bl,.string ma,.string nm,.string m,.string o,.string z,.string s,.slice AR nR cR,.string u,.string h,.string P,.string Q] A1 AR sA sE sV rs l1 wx)
         case first =>
          have HQ:=HS
          clear HS v0 v1 v2
          go_region_held3 (fun w'=>w'.cell? ⟨w.heap.size,18,none⟩=some (.string m)∧w'.cell? ⟨w.heap.size,19,none⟩=some (.string o)∧w'.cell? ⟨w.heap.size,21,none⟩=some (.string s)∧w'.cell? ⟨w.heap.size+1,0,none⟩=some (.string sA)) (first | exact HQ.out.sf | exact ((HQ.out.alloc _).drew).sf | exact (((HQ.out.alloc _).alloc _).drew).sf | exact HQ.out.drew.sf | exact (HQ.out.alloc _).sf | exact (HQ.out.drew.alloc _).sf | exact ((HQ.out.alloc _).alloc _).sf | exact ((HQ.out.drew.alloc _).alloc _).sf) (first | (go_at_call 20;(with_reducible refine (KI1.out _).mono ?_);rintro e wi ⟨rfl,hbq⟩;have nq : VfB w #[.string ch,.string sl,.string mm,.string mo,.string mg,.string mh,.string wm,.string wo,.string wg,.string wh,.string se,.string at_,.string ha,.string el,.string es,.string bl,.string ma,.string nm,.string m,.string o,.string z,.string s,.slice AR nR cR,.string u,.string h,.string P,.string Q] A1 AR sA sE sV rs l1 wi:=(by (first | exact HQ.out.next hbq | exact ((HQ.out.alloc _).drew).next hbq | exact (((HQ.out.alloc _).alloc _).drew).next hbq | exact HQ.out.drew.next hbq | exact (HQ.out.alloc _).next hbq | exact (HQ.out.drew.alloc _).next hbq | exact ((HQ.out.alloc _).alloc _).next hbq | exact ((HQ.out.drew.alloc _).alloc _).next hbq));(first | (have RA:=Lib.hid ((hbq.block _ (by simp)).trans (heap_alloc_new _ (.cells #[.string sA,.string s] 22)))) | (have RA:=Lib.hid ((hbq.block _ (Array.getElem?_eq_some_iff.1 RA.out).1).trans RA.out)) | skip);have HQ:=Lib.hid nq;clear nq hbq) | (go_at_call 20;(with_reducible refine (KIr.out _ _ (by first | rfl | exact IntWalk.i64_in _ (by omega))).mono ?_);rintro e wi ⟨rfl,hbq⟩;have nq : VfB w #[.string ch,.string sl,.string mm,.string mo,.string mg,.string mh,.string wm,.string wo,.string wg,.string wh,.string se,.string at_,.string ha,.string el,.string es,.string bl,.string ma,.string nm,.string m,.string o,.string z,.string s,.slice AR nR cR,.string u,.string h,.string P,.string Q] A1 AR sA sE sV rs l1 wi:=(by (first | exact HQ.out.next hbq | exact ((HQ.out.alloc _).drew).next hbq | exact (((HQ.out.alloc _).alloc _).drew).next hbq | exact HQ.out.drew.next hbq | exact (HQ.out.alloc _).next hbq | exact (HQ.out.drew.alloc _).next hbq | exact ((HQ.out.alloc _).alloc _).next hbq | exact ((HQ.out.drew.alloc _).alloc _).next hbq));(first | (have RA:=Lib.hid ((hbq.block _ (by simp)).trans (heap_alloc_new _ (.cells #[.string sA,.string s] 22)))) | (have RA:=Lib.hid ((hbq.block _ (Array.getElem?_eq_some_iff.1 RA.out).1).trans RA.out)) | skip);have HQ:=Lib.hid nq;clear nq hbq) | (go_at_call 19;(refine (KPr.out _ _ _ (sls_row2 (by (first | exact heap_alloc_new _ _ | exact heap_alloc2_new _ _ _ | exact heap_alloc2_old _ _ _ | exact (heap_alloc_old _ _ (Array.getElem?_eq_some_iff.1 RA.out).1).trans RA.out))) (zls_row2 (by (first | exact heap_alloc_new _ _ | exact heap_alloc2_new _ _ _ | exact heap_alloc2_old _ _ _ | exact (heap_alloc_old _ _ (Array.getElem?_eq_some_iff.1 RA.out).1).trans RA.out)))).mono ?_);rintro e wp ⟨rfl,hbq⟩;have nq : VfB w #[.string ch,.string sl,.string mm,.string mo,.string mg,.string mh,.string wm,.string wo,.string wg,.string wh,.string se,.string at_,.string ha,.string el,.string es,.string bl,.string ma,.string nm,.string m,.string o,.string z,.string s,.slice AR nR cR,.string u,.string h,.string P,.string Q] A1 AR sA sE sV rs l1 wp:=(by (first | exact HQ.out.next hbq | exact ((HQ.out.alloc _).drew).next hbq | exact (((HQ.out.alloc _).alloc _).drew).next hbq | exact HQ.out.drew.next hbq | exact (HQ.out.alloc _).next hbq | exact (HQ.out.drew.alloc _).next hbq | exact ((HQ.out.alloc _).alloc _).next hbq | exact ((HQ.out.drew.alloc _).alloc _).next hbq));have HQ9:=Lib.hid nq;have HQ:=HQ9;clear nq hbq))
          all_goals
           go_wp2_with fail
           go_meet
           exact ⟨rfl,rfl,HQ9.out⟩
         case rest =>
          obtain ⟨rfl,rfl,hcut⟩:=hcut
          clear HS v0 v1 v2
          have HS:=Lib.hid hcut
          obtain ⟨v0,v1,v2⟩:=hcut.cells
          clear hcut
          go_wp2_with (first | (go_at_call 13;(with_reducible refine (KVr.out _ HS.out.bel HS.out.r0 HS.out.r1).mono ?_);rintro e wn ⟨rfl,hb⟩;have HY:=Lib.hid (HS.out.next hb);obtain ⟨v0,v1,v2⟩:=HY.out.cells;clear hb HS;have HS:=HY;clear HY) | (with_reducible refine wpList_look ?_;refine wpList_load_sub rfl 30 _ rfl _ 0 rfl 37 #[.string ch,.string sl,.string mm,.string mo,.string mg,.string mh,.string wm,.string wo,.string wg,.string wh,.string se,.string at_,.string ha,.string el,.string es,.string bl,.string ma] #[.string ch,.string sl,.string mm,.string mo,.string mg,.string mh,.string wm,.string wo,.string wg,.string wh,.string se,.string at_,.string ha,.string el,.string es,.string bl,.string ma,.string nm,.string m,.string o,.string z,.string s,.slice AR nR cR,.string u,.string h,.string P,.string Q] (0,0) _ HS.out.set ext_par Tryz.underlying30 rfl (info17'.trans rfl) ?_) | (with_reducible refine wpList_look ?_;refine wpList_load_sub rfl 33 _ rfl _ 17 rfl 37 #[.string nm,.string m,.string o,.string z,.string s,.slice AR nR cR,.string u,.string h] #[.string ch,.string sl,.string mm,.string mo,.string mg,.string mh,.string wm,.string wo,.string wg,.string wh,.string se,.string at_,.string ha,.string el,.string es,.string bl,.string ma,.string nm,.string m,.string o,.string z,.string s,.slice AR nR cR,.string u,.string h,.string P,.string Q] (0,0) _ HS.out.set ext_key Tryz.underlying33 rfl (info8'.trans rfl) ?_))
          go_roundw
          case rel=>exact ⟨r+1,by have:=HLT.out;omega,by go_num,HS.out⟩
          case measure=>simp [intOf];have:=HLT.out;omega
      · have hlti : ¬ (r : Int)≤10:=by omega
        clear hlt
        go_wp2_with (go_at_call 7;(with_reducible refine (KAW.out _ HS.out.bel).mono ?_);rintro e wn ⟨rfl,hb⟩;have HY:=Lib.hid (HS.out.next hb);obtain ⟨v0,v1,v2⟩:=HY.out.cells;clear hb HS;have HS:=HY;clear HY)
        go_ret
        exact ⟨rfl,HS.out.bel⟩
   · have HN10 : Hid (10≤10):=Lib.hid (Nat.le_refl _)
     have HNQ : Hid (num sE*10≤num sV):=Lib.hid (by rw [← hs];exact HNQ.out)
     clear hs cq
     go_enter Tryz.func4, Tryz.ntmps4
     go_wp2_with (first | (go_at_call 5;(with_reducible refine (KF.out _ HS.out.r0 HS.out.bel.size).mono ?_);rintro e wn ⟨rfl,hb⟩;have HY:=Lib.hid (HS.out.next hb);obtain ⟨v0,v1,v2⟩:=HY.out.cells;clear hb HS;have HS:=HY;clear HY) | (go_at_call 11;(with_reducible refine (KL1.out _ HS.out.r1).mono ?_);rintro e wn ⟨rfl,rfl⟩) | (go_at_call 12;(refine (KSH.out _ _ _ (SLs.newAt _ 22 [sA,sE,sV] _ rfl)).mono ?_);rintro e wn ⟨rfl,rfl⟩;have HY:=Lib.hid (HS.out.alloc (.cells #[.string sA,.string sE,.string sV] 22));obtain ⟨v0,v1,v2⟩:=HY.out.cells;clear HS;have HS:=HY;clear HY) | (go_at_call 13;(with_reducible refine (KV1.out _ HS.out.bel HS.out.r0 HS.out.r1).mono ?_);rintro e wn ⟨rfl,hb⟩;have HY:=Lib.hid (HS.out.next hb);obtain ⟨v0,v1,v2⟩:=HY.out.cells;clear hb HS;have HS:=HY;clear HY) | (go_at_call 14;(with_reducible refine (KDM.out _).mono ?_);rintro e wn ⟨rfl,hb⟩;have HY:=Lib.hid (HS.out.next hb);obtain ⟨v0,v1,v2⟩:=HY.out.cells;clear hb HS;have HS:=HY;clear HY) | (go_at_call 15;(with_reducible refine (KSM.out _).mono ?_);rintro e wn ⟨rfl,rfl⟩) | (with_reducible refine wpList_look ?_;refine wpList_load_row rfl 37 _ rfl _ rfl 37 #[.string ch,.string sl,.string mm,.string mo,.string mg,.string mh,.string wm,.string wo,.string wg,.string wh,.string se,.string at_,.string ha,.string el,.string es,.string bl,.string ma,.string nm,.string m,.string o,.string z,.string s,.slice AR nR cR,.string u,.string h,.string P,.string Q] (0,0) _ HS.out.set Tryz.underlying37 rfl (c27.trans rfl) ?_) | (with_reducible refine wpList_look ?_;refine wpList_load_sub rfl 30 _ rfl _ 0 rfl 37 #[.string ch,.string sl,.string mm,.string mo,.string mg,.string mh,.string wm,.string wo,.string wg,.string wh,.string se,.string at_,.string ha,.string el,.string es,.string bl,.string ma] #[.string ch,.string sl,.string mm,.string mo,.string mg,.string mh,.string wm,.string wo,.string wg,.string wh,.string se,.string at_,.string ha,.string el,.string es,.string bl,.string ma,.string nm,.string m,.string o,.string z,.string s,.slice AR nR cR,.string u,.string h,.string P,.string Q] (0,0) _ HS.out.set ext_par Tryz.underlying30 rfl (info17'.trans rfl) ?_) | (with_reducible refine wpList_look ?_;refine wpList_load_sub rfl 33 _ rfl _ 17 rfl 37 #[.string nm,.string m,.string o,.string z,.string s,.slice AR nR cR,.string u,.string h] #[.string ch,.string sl,.string mm,.string mo,.string mg,.string mh,.string wm,.string wo,.string wg,.string wh,.string se,.string at_,.string ha,.string el,.string es,.string bl,.string ma,.string nm,.string m,.string o,.string z,.string s,.slice AR nR cR,.string u,.string h,.string P,.string Q] (0,0) _ HS.out.set ext_key Tryz.underlying33 rfl (info8'.trans rfl) ?_) | (with_reducible refine wpList_look ?_;refine wpList_load_row rfl 51 _ rfl _ rfl 51 #[.string sA,.string sE,.string sV] (0,0) _ HS.out.sig Tryz.underlying51 rfl (info3s'.trans rfl) ?_))
     have HS0:=HS
     clear HS v0 v1 v2
     go_loopw [12] (fun v wr=>∃ r : Nat,r≤10+1∧v=.int .u64 r∧VfB w #[.string ch,.string sl,.string mm,.string mo,.string mg,.string mh,.string wm,.string wo,.string wg,.string wh,.string se,.string at_,.string ha,.string el,.string es,.string bl,.string ma,.string nm,.string m,.string o,.string z,.string s,.slice AR nR cR,.string u,.string h,.string P,.string Q] A1 AR sA sE sV rs l1 wr) (fun v _=>10+1 - (intOf v).toNat)
     case atStart=>exact ⟨0,Nat.zero_le _,rfl,HS0.out⟩
     case round =>
      clear HS0
      obtain ⟨r,hr,rfl,hvf⟩:=hrel
      have HS:=Lib.hid hvf
      obtain ⟨v0,v1,v2⟩:=hvf.cells
      clear hvf
      by_cases hlt : r≤10
      · have hr10 : r≤10:=Nat.le_trans hlt HN10.out
        have HR10:=Lib.hid hr10
        have HRE : Hid (num sE*r≤num sV):=Lib.hid (Nat.le_trans (Nat.mul_le_mul_left _ hlt) HNQ.out)
        have HLT:=Lib.hid hlt
        have hlti : (r : Int)≤10:=by omega
        obtain ⟨dd,hdd⟩ : ∃ dd,B (num sE*r)=dd:=⟨_,rfl⟩
        obtain ⟨vv,hvv⟩ : ∃ vv,B (num sV - num sE*r)=vv:=⟨_,rfl⟩
        obtain ⟨aa,haa⟩ : ∃ aa,B (shA m s sA r)=aa:=⟨_,rfl⟩
        obtain ⟨br,hbr⟩ : ∃ br,B r=br:=⟨_,rfl⟩
        have KOr : Hid (∀ wq,Calls Tryz.prog 17 #[.int .u64 (r : Int)] wq fun e w'=>e=.returned (.string br)∧Below wq.heap.size wq w'):=Lib.hid (fun wq=>by rw [← hbr];exact KOF.out r wq hr10)
        have KMr : Hid (∀ wq,Calls Tryz.prog 16 #[.string sE,.string br] wq fun e w'=>e=.returned (.tuple #[.string dd,.int .i64 0])∧Below wq.heap.size wq w'):=Lib.hid (fun wq=>by rw [← hdd,← hbr];exact KMU.out r wq HRE.out)
        have KSr : Hid (∀ wq,Calls Tryz.prog 18 #[.string sV,.string dd] wq fun e w'=>e=.returned (.tuple #[.string vv,.int .i64 0])∧Below wq.heap.size wq w'):=Lib.hid (fun wq=>by rw [← hvv,← hdd];exact KSU.out r wq HRE.out)
        have KIr : Hid (∀ (z : Int) wq,z=(r : Int)→Calls Tryz.prog 20 #[.int .i64 z] wq fun e w'=>e=.returned (.agg #[.bool false,.string br])∧Below wq.heap.size wq w'):=Lib.hid (fun z wq hz=>by rw [← hbr,hz];exact KIO.out r wq hr10)
        have KI1 : Hid (∀ wq,Calls Tryz.prog 20 #[.int .i64 1] wq fun e w'=>e=.returned (.agg #[.bool false,.string (B 1)])∧Below wq.heap.size wq w'):=Lib.hid (fun wq=>KIO.out 1 wq (by decide))
        have KPr : Hid (∀ (wq : World) ga gz,SLs wq wq.heap.size (some ⟨ga,0,none⟩) [sA,s]→ZLs wq wq.heap.size (some ⟨gz,0,none⟩) [(false,B 1),(false,br)]→Calls Tryz.prog 19 #[.agg #[.string m,.string o],.slice (some ⟨ga,0,none⟩) 2 2,.slice (some ⟨gz,0,none⟩) 2 2] wq fun r' w'=>r'=.returned (.tuple #[.string aa,.int .i64 0])∧Below wq.heap.size wq w'):=Lib.hid (fun wq ga gz h1 h2=>by rw [← haa];rw [← hbr] at h2;exact KPR.out r wq ga gz hr10 h1 h2)
        have KVr : Hid (∀ (wq : World),Below w.heap.size w wq→SLs wq w.heap.size AR rs→SLs wq w.heap.size A1 l1→Calls Tryz.prog 13 #[.agg #[.string ch,.string sl,.string mm,.string mo,.string mg,.string mh,.string wm,.string wo,.string wg,.string wh,.string se,.string at_,.string ha,.string el,.string es,.string bl,.string ma],.agg #[.string nm,.string m,.string o,.string z,.string s,.slice AR nR cR,.string u,.string h],.slice A1 n1 c1,.agg #[.string aa,.string sE,.string vv]] wq fun e w'=>e=.returned (.int .i64 0)∧Below wq.heap.size wq w'):=Lib.hid (fun wq h1 h2 h3=>by rw [← haa,← hvv];exact KVR.out r wq HRE.out h1 h2 h3)
        obtain ⟨b1,hb1⟩ : ∃ b1,B 1=b1:=⟨_,rfl⟩
        rw [hb1] at KPr KI1
        clear hdd hvv haa hbr hb1 hlt KOF KMU KSU KIO KPR KVR
        go_wp2_with fail
        go_region_with (first | (go_at_call 17;(with_reducible refine (KOr.out _).mono ?_);rintro e wn ⟨rfl,hb⟩;have HY : Hid (VfB w #[.string ch,.string sl,.string mm,.string mo,.string mg,.string mh,.string wm,.string wo,.string wg,.string wh,.string se,.string at_,.string ha,.string el,.string es,.string bl,.string ma,.string nm,.string m,.string o,.string z,.string s,.slice AR nR cR,.string u,.string h,.string P,.string Q] A1 AR sA sE sV rs l1 wn):=Lib.hid (by first | exact HS.out.next hb | exact HS.out.drew.next hb);obtain ⟨v0,v1,v2⟩:=HY.out.cells;clear hb HS;have HS:=HY;clear HY) | (go_at_call 16;(with_reducible refine (KMr.out _).mono ?_);rintro e wn ⟨rfl,hb⟩;have HY : Hid (VfB w #[.string ch,.string sl,.string mm,.string mo,.string mg,.string mh,.string wm,.string wo,.string wg,.string wh,.string se,.string at_,.string ha,.string el,.string es,.string bl,.string ma,.string nm,.string m,.string o,.string z,.string s,.slice AR nR cR,.string u,.string h,.string P,.string Q] A1 AR sA sE sV rs l1 wn):=Lib.hid (by first | exact HS.out.next hb | exact HS.out.drew.next hb);obtain ⟨v0,v1,v2⟩:=HY.out.cells;clear hb HS;have HS:=HY;clear HY))
        all_goals
         go_upto_region 16 with (go_at_call 18;(with_reducible refine (KSr.out _).mono ?_);rintro e wn ⟨rfl,hb⟩;have HY:=Lib.hid (HS.out.next hb);obtain ⟨v0,v1,v2⟩:=HY.out.cells;clear hb HS;have HS:=HY;clear HY)
         go_cut [17,18] (fun x er wx=>x=.string aa∧er=.int .i64 0∧VfB w #[.string ch,.string sl,.string mm,.string mo,.string mg,.string mh,.string wm,.string wo,.string wg,.string wh,.string se,.string at_,.string ha,.string el,.string es,.string bl,.string ma,.string nm,.string m,.string o,.string z,.string s,.slice AR nR cR,.string u,.string h,.string P,.string Q] A1 AR sA sE sV rs l1 wx)
         case first =>
          have HQ:=HS
          clear HS v0 v1 v2
          go_region_held3 (fun w'=>w'.cell? ⟨w.heap.size,18,none⟩=some (.string m)∧w'.cell? ⟨w.heap.size,19,none⟩=some (.string o)∧w'.cell? ⟨w.heap.size,21,none⟩=some (.string s)∧w'.cell? ⟨w.heap.size+1,0,none⟩=some (.string sA)) (first | exact HQ.out.sf | exact ((HQ.out.alloc _).drew).sf | exact (((HQ.out.alloc _).alloc _).drew).sf | exact HQ.out.drew.sf | exact (HQ.out.alloc _).sf | exact (HQ.out.drew.alloc _).sf | exact ((HQ.out.alloc _).alloc _).sf | exact ((HQ.out.drew.alloc _).alloc _).sf) (first | (go_at_call 20;(with_reducible refine (KI1.out _).mono ?_);rintro e wi ⟨rfl,hbq⟩;have nq : VfB w #[.string ch,.string sl,.string mm,.string mo,.string mg,.string mh,.string wm,.string wo,.string wg,.string wh,.string se,.string at_,.string ha,.string el,.string es,.string bl,.string ma,.string nm,.string m,.string o,.string z,.string s,.slice AR nR cR,.string u,.string h,.string P,.string Q] A1 AR sA sE sV rs l1 wi:=(by (first | exact HQ.out.next hbq | exact ((HQ.out.alloc _).drew).next hbq | exact (((HQ.out.alloc _).alloc _).drew).next hbq | exact HQ.out.drew.next hbq | exact (HQ.out.alloc _).next hbq | exact (HQ.out.drew.alloc _).next hbq | exact ((HQ.out.alloc _).alloc _).next hbq | exact ((HQ.out.drew.alloc _).alloc _).next hbq));(first | (have RA:=Lib.hid ((hbq.block _ (by simp)).trans (heap_alloc_new _ (.cells #[.string sA,.string s] 22)))) | (have RA:=Lib.hid ((hbq.block _ (Array.getElem?_eq_some_iff.1 RA.out).1).trans RA.out)) | skip);have HQ:=Lib.hid nq;clear nq hbq) | (go_at_call 20;(with_reducible refine (KIr.out _ _ (by first | rfl | exact IntWalk.i64_in _ (by omega))).mono ?_);rintro e wi ⟨rfl,hbq⟩;have nq : VfB w #[.string ch,.string sl,.string mm,.string mo,.string mg,.string mh,.string wm,.string wo,.string wg,.string wh,.string se,.string at_,.string ha,.string el,.string es,.string bl,.string ma,.string nm,.string m,.string o,.string z,.string s,.slice AR nR cR,.string u,.string h,.string P,.string Q] A1 AR sA sE sV rs l1 wi:=(by (first | exact HQ.out.next hbq | exact ((HQ.out.alloc _).drew).next hbq | exact (((HQ.out.alloc _).alloc _).drew).next hbq | exact HQ.out.drew.next hbq | exact (HQ.out.alloc _).next hbq | exact (HQ.out.drew.alloc _).next hbq | exact ((HQ.out.alloc _).alloc _).next hbq | exact ((HQ.out.drew.alloc _).alloc _).next hbq));(first | (have RA:=Lib.hid ((hbq.block _ (by simp)).trans (heap_alloc_new _ (.cells #[.string sA,.string s] 22)))) | (have RA:=Lib.hid ((hbq.block _ (Array.getElem?_eq_some_iff.1 RA.out).1).trans RA.out)) | skip);have HQ:=Lib.hid nq;clear nq hbq) | (go_at_call 19;(refine (KPr.out _ _ _ (sls_row2 (by (first | exact heap_alloc_new _ _ | exact heap_alloc2_new _ _ _ | exact heap_alloc2_old _ _ _ | exact (heap_alloc_old _ _ (Array.getElem?_eq_some_iff.1 RA.out).1).trans RA.out))) (zls_row2 (by (first | exact heap_alloc_new _ _ | exact heap_alloc2_new _ _ _ | exact heap_alloc2_old _ _ _ | exact (heap_alloc_old _ _ (Array.getElem?_eq_some_iff.1 RA.out).1).trans RA.out)))).mono ?_);rintro e wp ⟨rfl,hbq⟩;have nq : VfB w #[.string ch,.string sl,.string mm,.string mo,.string mg,.string mh,.string wm,.string wo,.string wg,.string wh,.string se,.string at_,.string ha,.string el,.string es,.string bl,.string ma,.string nm,.string m,.string o,.string z,.string s,.slice AR nR cR,.string u,.string h,.string P,.string Q] A1 AR sA sE sV rs l1 wp:=(by (first | exact HQ.out.next hbq | exact ((HQ.out.alloc _).drew).next hbq | exact (((HQ.out.alloc _).alloc _).drew).next hbq | exact HQ.out.drew.next hbq | exact (HQ.out.alloc _).next hbq | exact (HQ.out.drew.alloc _).next hbq | exact ((HQ.out.alloc _).alloc _).next hbq | exact ((HQ.out.drew.alloc _).alloc _).next hbq));have HQ9:=Lib.hid nq;have HQ:=HQ9;clear nq hbq))
          all_goals
           go_wp2_with fail
           go_meet
           exact ⟨rfl,rfl,HQ9.out⟩
         case rest =>
          obtain ⟨rfl,rfl,hcut⟩:=hcut
          clear HS v0 v1 v2
          have HS:=Lib.hid hcut
          obtain ⟨v0,v1,v2⟩:=hcut.cells
          clear hcut
          go_wp2_with (first | (go_at_call 13;(with_reducible refine (KVr.out _ HS.out.bel HS.out.r0 HS.out.r1).mono ?_);rintro e wn ⟨rfl,hb⟩;have HY:=Lib.hid (HS.out.next hb);obtain ⟨v0,v1,v2⟩:=HY.out.cells;clear hb HS;have HS:=HY;clear HY) | (with_reducible refine wpList_look ?_;refine wpList_load_sub rfl 30 _ rfl _ 0 rfl 37 #[.string ch,.string sl,.string mm,.string mo,.string mg,.string mh,.string wm,.string wo,.string wg,.string wh,.string se,.string at_,.string ha,.string el,.string es,.string bl,.string ma] #[.string ch,.string sl,.string mm,.string mo,.string mg,.string mh,.string wm,.string wo,.string wg,.string wh,.string se,.string at_,.string ha,.string el,.string es,.string bl,.string ma,.string nm,.string m,.string o,.string z,.string s,.slice AR nR cR,.string u,.string h,.string P,.string Q] (0,0) _ HS.out.set ext_par Tryz.underlying30 rfl (info17'.trans rfl) ?_) | (with_reducible refine wpList_look ?_;refine wpList_load_sub rfl 33 _ rfl _ 17 rfl 37 #[.string nm,.string m,.string o,.string z,.string s,.slice AR nR cR,.string u,.string h] #[.string ch,.string sl,.string mm,.string mo,.string mg,.string mh,.string wm,.string wo,.string wg,.string wh,.string se,.string at_,.string ha,.string el,.string es,.string bl,.string ma,.string nm,.string m,.string o,.string z,.string s,.slice AR nR cR,.string u,.string h,.string P,.string Q] (0,0) _ HS.out.set ext_key Tryz.underlying33 rfl (info8'.trans rfl) ?_))
          go_roundw
          case rel=>exact ⟨r+1,by have:=HLT.out;omega,by go_num,HS.out⟩
          case measure=>simp [intOf];have:=HLT.out;omega
      · have hlti : ¬ (r : Int)≤10:=by omega
        clear hlt
        go_wp2_with (go_at_call 7;(with_reducible refine (KAW.out _ HS.out.bel).mono ?_);rintro e wn ⟨rfl,hb⟩;have HY:=Lib.hid (HS.out.next hb);obtain ⟨v0,v1,v2⟩:=HY.out.cells;clear hb HS;have HS:=HY;clear HY)
        go_ret
        exact ⟨rfl,HS.out.bel⟩
 · have k1 : (X != 0)=true:=by simpa using hx
   clear hx hX hK hpar hPP y1 y2 y3 y4 y5 y6 y7 sm snm hR6 hq1 hnR hn1 HFF HLL HNN
   go_enter Tryz.func4, Tryz.ntmps4
   go_wp2_with (first | (go_at_call 5;(with_reducible refine (KF.out _ HS.out.r0 HS.out.bel.size).mono ?_);rintro e wn ⟨rfl,hb⟩;have HY:=Lib.hid (HS.out.next hb);obtain ⟨v0,v1,v2⟩:=HY.out.cells;clear hb HS;have HS:=HY;clear HY) | (go_at_call 11;(with_reducible refine (KL1.out _ HS.out.r1).mono ?_);rintro e wn ⟨rfl,rfl⟩) | (go_at_call 12;(refine (KSH.out _ _ _ (SLs.newAt _ 22 [sA,sE,sV] _ rfl)).mono ?_);rintro e wn ⟨rfl,rfl⟩;have HY:=Lib.hid (HS.out.alloc (.cells #[.string sA,.string sE,.string sV] 22));obtain ⟨v0,v1,v2⟩:=HY.out.cells;clear HS;have HS:=HY;clear HY) | (go_at_call 13;(with_reducible refine (KV1.out _ HS.out.bel HS.out.r0 HS.out.r1).mono ?_);rintro e wn ⟨rfl,hb⟩;have HY:=Lib.hid (HS.out.next hb);obtain ⟨v0,v1,v2⟩:=HY.out.cells;clear hb HS;have HS:=HY;clear HY) | (go_at_call 7;(with_reducible refine (KAW.out _ HS.out.bel).mono ?_);rintro e wn ⟨rfl,hb⟩;have HY:=Lib.hid (HS.out.next hb);obtain ⟨v0,v1,v2⟩:=HY.out.cells;clear hb HS;have HS:=HY;clear HY) | (with_reducible refine wpList_look ?_;refine wpList_load_row rfl 37 _ rfl _ rfl 37 #[.string ch,.string sl,.string mm,.string mo,.string mg,.string mh,.string wm,.string wo,.string wg,.string wh,.string se,.string at_,.string ha,.string el,.string es,.string bl,.string ma,.string nm,.string m,.string o,.string z,.string s,.slice AR nR cR,.string u,.string h,.string P,.string Q] (0,0) _ HS.out.set Tryz.underlying37 rfl (c27.trans rfl) ?_) | (with_reducible refine wpList_look ?_;refine wpList_load_sub rfl 30 _ rfl _ 0 rfl 37 #[.string ch,.string sl,.string mm,.string mo,.string mg,.string mh,.string wm,.string wo,.string wg,.string wh,.string se,.string at_,.string ha,.string el,.string es,.string bl,.string ma] #[.string ch,.string sl,.string mm,.string mo,.string mg,.string mh,.string wm,.string wo,.string wg,.string wh,.string se,.string at_,.string ha,.string el,.string es,.string bl,.string ma,.string nm,.string m,.string o,.string z,.string s,.slice AR nR cR,.string u,.string h,.string P,.string Q] (0,0) _ HS.out.set ext_par Tryz.underlying30 rfl (info17'.trans rfl) ?_) | (with_reducible refine wpList_look ?_;refine wpList_load_sub rfl 33 _ rfl _ 17 rfl 37 #[.string nm,.string m,.string o,.string z,.string s,.slice AR nR cR,.string u,.string h] #[.string ch,.string sl,.string mm,.string mo,.string mg,.string mh,.string wm,.string wo,.string wg,.string wh,.string se,.string at_,.string ha,.string el,.string es,.string bl,.string ma,.string nm,.string m,.string o,.string z,.string s,.slice AR nR cR,.string u,.string h,.string P,.string Q] (0,0) _ HS.out.set ext_key Tryz.underlying33 rfl (info8'.trans rfl) ?_) | (with_reducible refine wpList_look ?_;refine wpList_load_row rfl 51 _ rfl _ rfl 51 #[.string sA,.string sE,.string sV] (0,0) _ HS.out.sig Tryz.underlying51 rfl (info3s'.trans rfl) ?_))
   go_ret
   exact ⟨rfl,HS.out.bel⟩
end Go.Proofs.YtgkggkpighpdiaaGreatDoor
