/- The walks of the reference: Sub (01), Of at one (02), below (30). The walk of the reference's Equation (30). -/
import Derived.Test.YtjkccbpmlapgcaaGreatDoorMvKl
import Derived.Test.YtjkccbpmlapgcaaGreatDoorMvKw
namespace Go.Proofs.YtjkccbpmlapgcaaGreatDoor
open Go.RowKit
set_option maxRecDepth 100000
set_option linter.unusedVariables false
set_option maxHeartbeats 8000000
theorem r01_SubB (a b : ByteArray) (w : World) (ha : valid a=true) (hb : valid b=true) :
  Calls Tryz.prog 70 #[.string a,.string b] w fun e w'=>e=.returned (.tuple #[.string (natSub a b).1,.int .i64 (natSub a b).2])∧Below w.heap.size w w':=by
 have lx:=valid_num_lt ha
 have ly:=valid_num_lt hb
 have ea:=B_num ha
 have eb:=B_num hb
 have hsb : natSub a b=if num a < num b then (E0,2) else (B (num a - num b),0):=by unfold natSub;rw [ha,hb];rfl
 rw [hsb]
 have KV:=Lib.hid (fun w=>r01_Valid a w)
 have KW:=Lib.hid (fun w=>r01_Valid b w)
 rw [ha] at KV
 rw [hb] at KW
 obtain ⟨x,hx⟩ : ∃ x,num a=x:=⟨_,rfl⟩
 obtain ⟨y,hy⟩ : ∃ y,num b=y:=⟨_,rfl⟩
 rw [hx] at lx ea ⊢
 rw [hy] at ly eb ⊢
 subst ea eb
 have sx : (B x).size≤200:=Nat.le_trans (valid_size ha) (by decide)
 have sy : (B y).size≤200:=Nat.le_trans (valid_size hb) (by decide)
 have KO:=fun w=>r01_Order x y w (by omega) (by omega)
 rcases Nat.lt_or_ge x y with h | h
 · rw [if_pos h]
   rw [show cmpN x y=-1 by unfold cmpN;rw [if_pos h]] at KO
   have KO:=Lib.hid KO
   clear hx hy lx ly ha hb hsb sx sy h
   go_enter Tryz.func70, Tryz.ntmps70
   go_wp2_with (first
    | (go_at_call 53;(with_reducible refine (KV.out _).mono ?_);rintro e w1 ⟨rfl,rfl⟩)
    | (go_at_call 53;(with_reducible refine (KW.out _).mono ?_);rintro e w1 ⟨rfl,rfl⟩)
    | (go_at_call 71;(with_reducible refine (KO.out _).mono ?_);rintro e w2 ⟨rfl,hb2⟩;have HB2:=Lib.hid hb2;clear hb2))
   go_ret2
   exact ⟨rfl,HB2.out⟩
 · rw [if_neg (by omega)]
   have KM:=Lib.hid (fun w=>r01_Minus x y w sx sy h)
   obtain ⟨r,hr⟩ : ∃ r,r=x - y:=⟨_,rfl⟩
   rw [← hr] at KM ⊢
   obtain ⟨cv,hcv,hc0⟩ : ∃ cv,cmpN x y=cv∧decide (cv < 0)=false:=by
    refine ⟨_,rfl,decide_eq_false ?_⟩
    unfold cmpN
    rw [if_neg (by omega)]
    split<;>decide
   rw [hcv] at KO
   have KO:=Lib.hid KO
   clear hx hy lx ly ha hb hsb sx sy h hr hcv
   go_enter Tryz.func70, Tryz.ntmps70
   go_wp2_with (first
    | (go_at_call 53;(with_reducible refine (KV.out _).mono ?_);rintro e w1 ⟨rfl,rfl⟩)
    | (go_at_call 53;(with_reducible refine (KW.out _).mono ?_);rintro e w1 ⟨rfl,rfl⟩)
    | (go_at_call 71;(with_reducible refine (KO.out _).mono ?_);rintro e w2 ⟨rfl,hb2⟩;have HB2:=Lib.hid hb2;clear hb2)
    | (go_at_call 108;(with_reducible refine (KM.out _).mono ?_);rintro e w3 ⟨rfl,hb3⟩;have HB3:=Lib.hid hb3;clear hb3))
   go_ret2
   exact ⟨rfl,below2 HB2.out HB3.out⟩
theorem r02_OfOne (w : World) : Calls Tryz.prog 76 #[.int .i64 1] w fun e w'=>e=.returned (.agg #[.bool false,.string (B 1)])∧Below w.heap.size w w':=by
 have KO:=Lib.hid (fun w=>r01_Of' 1 1 w rfl (by decide))
 have KM:=Lib.hid (fun w=>r02_Make (B 1) w)
 go_enter Tryz.func76, Tryz.ntmps76
 go_wp2_with (first
  | (go_at_call 104;(with_reducible refine (KO.out _).mono ?_);rintro e w1 ⟨rfl,hb1⟩;have hcw1:=(bcell hb1).1;have hfw1:=(bcell hb1).2;have hs1:=hb1.size;have hz1a : w.heap.size < w1.heap.size:=by { first | omega | (simp at hs1;omega) })
  | (go_at_call 109;(with_reducible refine (KM.out _).mono ?_);rintro e w2 ⟨rfl,hb2⟩;have hcw2:=(bcell hb2).1;have hfw2:=(bcell hb2).2;have hs2:=hb2.size;have hz2a : w.heap.size < w2.heap.size:=by { first | omega | (simp at hs2;omega) }))
 exact bodyPost_ret (v:=.agg #[.bool false,.string (B 1)]) (by simp [results,Tryz.results76,go_sem,hcw2,hcw1,hz1a]) rfl ⟨rfl,((below2 (below2 ((Below.refl _ _).alloc (Nat.le_refl _) _) hb1) hb2).setCell (by simp) _).setCell (by simp) _⟩
theorem cmp_ltB {x : Nat} {b : ByteArray} (hx : x < lim) (hb : valid b=true) : decide (natCmp (B x) b < 0)=decide (x < num b):=by
 unfold natCmp cmpN
 rw [valid_B hx,hb,num_B]
 by_cases h1 : x < num b
 · simp [h1]
 · by_cases h2 : x=num b<;>simp [h1,h2]
theorem r30_below (x l sz : ByteArray) (w : World) (hx : valid x=true) (hl : valid l=true) (hz : valid sz=true) :
  Calls Tryz.prog 32 #[.string x,.string l,.string sz] w fun e w'=>e=.returned (.bool (belS x l sz))∧Below w.heap.size w w':=by
 have KS:=fun w=>r01_SubB x l w hx hl
 have KC:=fun w=>r01_Cmp (B (num x - num l)) sz w
 have hcg:=cmp_ltB (Nat.lt_of_le_of_lt (Nat.sub_le (num x) (num l)) (valid_num_lt hx)) hz
 have hr : belS x l sz=(decide (num l≤num x)&&decide (num x - num l < num sz)):=rfl
 by_cases h : num l≤num x
 · rw [sub_ok hx hl h] at KS
   rw [decide_eq_true h,Bool.true_and] at hr
   rw [hr]
   obtain ⟨d,hd⟩ : ∃ d,num x - num l=d:=⟨_,rfl⟩
   rw [hd] at KS KC hcg ⊢
   obtain ⟨cv,hcv⟩ : ∃ cv,natCmp (B d) sz=cv:=⟨_,rfl⟩
   rw [hcv] at KC hcg
   obtain ⟨q,hq⟩ : ∃ q,decide (d < num sz)=q:=⟨_,rfl⟩
   rw [hq] at hcg ⊢
   have KS:=Lib.hid KS
   have KC:=Lib.hid KC
   clear hr hd hcv hq h hx hl hz
   go_enter Tryz.func32, Tryz.ntmps32
   go_wp2_with (first
    | (go_at_call 70;(with_reducible refine (KS.out _).mono ?_);rintro e w2 ⟨rfl,hb2⟩;have HB2:=Lib.hid hb2;clear hb2)
    | (go_at_call 33;(with_reducible refine (KC.out _).mono ?_);rintro e w3 ⟨rfl,hb3⟩;have HB3:=Lib.hid hb3;clear hb3))
   go_ret
   exact ⟨ret_bool (by simp),below2 HB2.out HB3.out⟩
 · rw [sub_no hx hl (by omega)] at KS
   rw [decide_eq_false h,Bool.false_and] at hr
   rw [hr]
   have KS:=Lib.hid KS
   clear hr hcg KC h hx hl hz
   go_enter Tryz.func32, Tryz.ntmps32
   go_wp2_with (go_at_call 70;(with_reducible refine (KS.out _).mono ?_);rintro e w2 ⟨rfl,hb2⟩;have HB2:=Lib.hid hb2;clear hb2)
   go_ret
   exact ⟨rfl,HB2.out⟩
end Go.Proofs.YtjkccbpmlapgcaaGreatDoor
namespace Go.Proofs.YtjkccbpmlapgcaaGreatDoor
open Go.RowKit
set_option maxRecDepth 100000
set_option linter.unusedVariables false
set_option maxHeartbeats 8000000
structure EqAt (w : World) (ks vs : Array Value) (W : World) : Prop where
 key : W.heap[w.heap.size]?=some (.cells ks 33 (0,0))
 sig : W.heap[w.heap.size+1]?=some (.cells vs 48 (0,0))
 bel : Below w.heap.size w W
section
variable {w W W' : World} {ks vs : Array Value}
theorem EqAt.lt (k : EqAt w ks vs W) : w.heap.size+1 < W.heap.size:=(Array.getElem?_eq_some_iff.1 k.sig).1
theorem EqAt.next (k : EqAt w ks vs W) (hb : Below W.heap.size W W') : EqAt w ks vs W':=by
 have l2:=k.lt
 exact ⟨(hb.block _ (by omega)).trans k.key,(hb.block _ l2).trans k.sig,k.bel.trans (hb.mono k.bel.size)⟩
theorem EqAt.drew (k : EqAt w ks vs W) : EqAt w ks vs W.drew:=k.next ((Below.refl _ _).drew)
theorem EqAt.alloc (k : EqAt w ks vs W) (ob : Obj) : EqAt w ks vs (W.alloc ob):=k.next ((Below.refl _ _).alloc (Nat.le_refl _) _)
theorem EqAt.start (w : World) (ks vs : Array Value) : EqAt w ks vs ((w.alloc (.cells ks 33)).alloc (.cells vs 48)) :=
 ⟨heap_alloc2_old _ _ _,heap_alloc2_new _ _ _,((Below.refl _ _).alloc (Nat.le_refl _) _).alloc (by simp) _⟩
end
theorem EqAt.sf {w W : World} {nm m o z s u h sA sE sV : ByteArray} {A : Option Addr} {n c : Nat} (k : EqAt w #[.string nm,.string m,.string o,.string z,.string s,.slice A n c,.string u,.string h] #[.string sA,.string sE,.string sV] W) :
  W.cell? ⟨w.heap.size,1,none⟩=some (.string m)∧W.cell? ⟨w.heap.size,2,none⟩=some (.string o)∧W.cell? ⟨w.heap.size,4,none⟩=some (.string s)∧W.cell? ⟨w.heap.size+1,0,none⟩=some (.string sA)∧W.cell? ⟨w.heap.size+1,1,none⟩=some (.string sE)∧W.cell? ⟨w.heap.size+1,2,none⟩=some (.string sV) :=
 ⟨cell_of_row W _ 1 _ _ _ k.key,cell_of_row W _ 2 _ _ _ k.key,cell_of_row W _ 4 _ _ _ k.key,cell_of_row W _ 0 _ _ _ k.sig,cell_of_row W _ 1 _ _ _ k.sig,cell_of_row W _ 2 _ _ _ k.sig⟩
theorem r30_Equation (nm m o z s u h sA sE sV : ByteArray) (M : Nat) (A : Option Addr) (n c : Nat) (w : World) (sm : m.size≤8) (hg : groupE m o=0) (h2M : 2≤num m) (hall : [sA,s,B M].all (hasG m o)=true) (vE : valid sE=true) (vV : valid sV=true) :
  Calls Tryz.prog 36 #[.agg #[.string nm,.string m,.string o,.string z,.string s,.slice A n c,.string u,.string h],.string (B M),.agg #[.string sA,.string sE,.string sV]] w fun e w'=>e=.returned (.bool (eqS m s z sA sE sV M))∧Below w.heap.size w w':=by
 have HQ:=Lib.hid (EqAt.start w #[.string nm,.string m,.string o,.string z,.string s,.slice A n c,.string u,.string h] #[.string sA,.string sE,.string sV])
 have hre : eqS m s z sA sE sV M=((B (msgV m [sA,s,B M] [sE,sV,B 1])).toList==z.toList):=rfl
 have hval : [sE,sV,B 1].all valid=true:=by simp only [List.all_cons,List.all_nil,Bool.and_true,Bool.and_eq_true];exact ⟨vE,vV,by decide⟩
 have KE : Hid (∀ w,Calls Tryz.prog 57 #[.string sE] w fun e w'=>e=.returned (.agg #[.bool false,.string sE])∧Below w.heap.size w w'):=Lib.hid (fun w=>by have:=r02_From (num sE) w (Lib.hid (valid_num_lt vE));rwa [B_num vE] at this)
 have KV : Hid (∀ w,Calls Tryz.prog 57 #[.string sV] w fun e w'=>e=.returned (.agg #[.bool false,.string sV])∧Below w.heap.size w w'):=Lib.hid (fun w=>by have:=r02_From (num sV) w (Lib.hid (valid_num_lt vV));rwa [B_num vV] at this)
 have KP : Hid (∀ (wq : World) ga gz,SLs wq wq.heap.size (some ⟨ga,0,none⟩) [sA,s,B M]→ZLs wq wq.heap.size (some ⟨gz,0,none⟩) [(false,sE),(false,sV),(false,B 1)]→Calls Tryz.prog 58 #[.agg #[.string m,.string o],.slice (some ⟨ga,0,none⟩) 3 3,.slice (some ⟨gz,0,none⟩) 3 3] wq fun r w'=>r=.returned (.tuple #[.string (B (msgV m [sA,s,B M] [sE,sV,B 1])),.int .i64 0])∧Below wq.heap.size wq w'):=Lib.hid (fun wq ga gz h1 h2 =>
  r13_ProductN m o [sA,s,B M] [sE,sV,B 1] (some ⟨ga,0,none⟩) (some ⟨gz,0,none⟩) 3 3 3 wq sm hg hall hval rfl rfl (by omega) h2M h1 h2)
 obtain ⟨y,hy⟩ : ∃ y,B (msgV m [sA,s,B M] [sE,sV,B 1])=y:=⟨_,rfl⟩
 rw [hy] at hre KP
 obtain ⟨r,hr⟩ : ∃ r,eqS m s z sA sE sV M=r:=⟨_,rfl⟩
 rw [hr] at hre ⊢
 have HRE:=Lib.hid hre
 obtain ⟨W0,hW0⟩ : ∃ W0,(w.alloc (.cells #[.string nm,.string m,.string o,.string z,.string s,.slice A n c,.string u,.string h] 33)).alloc (.cells #[.string sA,.string sE,.string sV] 48)=W0:=⟨_,rfl⟩
 rw [hW0] at HQ
 clear hy hr hre hval sm hg h2M hall vE vV
 go_enter Tryz.func36, Tryz.ntmps36
 go_upto_region 1 with fail
 clear hW0
 go_cut [7,8] (fun zz er wx=>zz=.string y∧er=.int .i64 0∧EqAt w #[.string nm,.string m,.string o,.string z,.string s,.slice A n c,.string u,.string h] #[.string sA,.string sE,.string sV] wx)
 case first =>
  go_region_held3 (fun w'=>w'.cell? ⟨w.heap.size,1,none⟩=some (.string m)∧w'.cell? ⟨w.heap.size,2,none⟩=some (.string o)∧w'.cell? ⟨w.heap.size,4,none⟩=some (.string s)∧w'.cell? ⟨w.heap.size+1,0,none⟩=some (.string sA)∧w'.cell? ⟨w.heap.size+1,1,none⟩=some (.string sE)∧w'.cell? ⟨w.heap.size+1,2,none⟩=some (.string sV)) (first | exact HQ.out.sf | exact ((HQ.out.alloc _).drew).sf | exact (((HQ.out.alloc _).alloc _).drew).sf | exact HQ.out.drew.sf | exact (HQ.out.alloc _).sf | exact (HQ.out.drew.alloc _).sf | exact ((HQ.out.alloc _).alloc _).sf | exact ((HQ.out.drew.alloc _).alloc _).sf) (first | (go_at_call 57;(first | (with_reducible refine (KE.out _).mono ?_) | (with_reducible refine (KV.out _).mono ?_));rintro e wi ⟨rfl,hbq⟩;have nq : EqAt w #[.string nm,.string m,.string o,.string z,.string s,.slice A n c,.string u,.string h] #[.string sA,.string sE,.string sV] wi:=(by (first | exact HQ.out.next hbq | exact ((HQ.out.alloc _).drew).next hbq | exact (((HQ.out.alloc _).alloc _).drew).next hbq | exact HQ.out.drew.next hbq | exact (HQ.out.alloc _).next hbq | exact (HQ.out.drew.alloc _).next hbq | exact ((HQ.out.alloc _).alloc _).next hbq | exact ((HQ.out.drew.alloc _).alloc _).next hbq));(first | (have RA:=Lib.hid ((hbq.block _ (by simp)).trans (heap_alloc_new _ (.cells #[.string sA,.string s,.string (B M)] 22)))) | (have RA:=Lib.hid ((hbq.block _ (Array.getElem?_eq_some_iff.1 RA.out).1).trans RA.out)) | skip);have HQ:=Lib.hid nq;clear nq hbq) | (go_at_call 76;(with_reducible refine (r02_OfOne _).mono ?_);rintro e wi ⟨rfl,hbq⟩;have nq : EqAt w #[.string nm,.string m,.string o,.string z,.string s,.slice A n c,.string u,.string h] #[.string sA,.string sE,.string sV] wi:=(by (first | exact HQ.out.next hbq | exact ((HQ.out.alloc _).drew).next hbq | exact (((HQ.out.alloc _).alloc _).drew).next hbq | exact HQ.out.drew.next hbq | exact (HQ.out.alloc _).next hbq | exact (HQ.out.drew.alloc _).next hbq | exact ((HQ.out.alloc _).alloc _).next hbq | exact ((HQ.out.drew.alloc _).alloc _).next hbq));(first | (have RA:=Lib.hid ((hbq.block _ (by simp)).trans (heap_alloc_new _ (.cells #[.string sA,.string s,.string (B M)] 22)))) | (have RA:=Lib.hid ((hbq.block _ (Array.getElem?_eq_some_iff.1 RA.out).1).trans RA.out)) | skip);have HQ:=Lib.hid nq;clear nq hbq) | (go_at_call 58;(refine (KP.out _ _ _ (sls_row3 (by (first | exact heap_alloc_new _ _ | exact heap_alloc2_new _ _ _ | exact heap_alloc2_old _ _ _ | exact (heap_alloc_old _ _ (Array.getElem?_eq_some_iff.1 RA.out).1).trans RA.out))) (zls_row3 (by (first | exact heap_alloc_new _ _ | exact heap_alloc2_new _ _ _ | exact heap_alloc2_old _ _ _ | exact (heap_alloc_old _ _ (Array.getElem?_eq_some_iff.1 RA.out).1).trans RA.out)))).mono ?_);rintro e wp ⟨rfl,hbq⟩;have nq : EqAt w #[.string nm,.string m,.string o,.string z,.string s,.slice A n c,.string u,.string h] #[.string sA,.string sE,.string sV] wp:=(by (first | exact HQ.out.next hbq | exact ((HQ.out.alloc _).drew).next hbq | exact (((HQ.out.alloc _).alloc _).drew).next hbq | exact HQ.out.drew.next hbq | exact (HQ.out.alloc _).next hbq | exact (HQ.out.drew.alloc _).next hbq | exact ((HQ.out.alloc _).alloc _).next hbq | exact ((HQ.out.drew.alloc _).alloc _).next hbq));have HQ9:=Lib.hid nq;have HQ:=HQ9;clear nq hbq))
  all_goals
   go_wp2_with fail
   go_meet
   exact ⟨rfl,rfl,HQ9.out⟩
 case rest =>
  obtain ⟨rfl,rfl,hcut⟩:=hcut
  have HS9:=Lib.hid hcut
  have g3:=cell_of_row _ _ 3 _ _ _ hcut.key
  clear hcut HQ
  obtain ⟨q,hq⟩ : ∃ q,(y.toList==z.toList)=q:=⟨_,rfl⟩
  have HRQ : Hid (r=q):=Lib.hid (by rw [HRE.out,hq])
  go_wp2_with fail
  go_ret
  exact ⟨ret_bool (by rw [HRQ.out]),HS9.out.bel⟩
end Go.Proofs.YtjkccbpmlapgcaaGreatDoor
