/- issuerkey.Fits where every base fits. -/
import Derived.Test.YtiacajjpkncomaaGreatDoorExKd
import Derived.Test.YtiacajjpkncomaaGreatDoorExBM
namespace Go.Proofs.YtiacajjpkncomaaGreatDoor
open Go.RowKit
set_option maxRecDepth 100000
set_option linter.unusedVariables false
set_option maxHeartbeats 8000000
attribute [local go_sem] Oper.semAt_some
def fitB (m o tp tq:ByteArray) (x:Int × ByteArray):Bool:=if x.1=0 then decide (isSquareS m o tp tq x.2=(true,0)) else decide (isGenS m o tp tq x.2=(true,0))
structure FkK (w:World) (cs:Array Value) (nm m o z s u h:ByteArray) (A:Option Addr) (n c:Nat) (rs:List ByteArray) (tp tq:ByteArray) (W:World):Prop where
 par:W.heap[w.heap.size]?=some (.cells cs 30 (0,0))
 key:W.heap[w.heap.size+1]?=some (.cells #[.string nm,.string m,.string o,.string z,.string s,.slice A n c,.string u,.string h] 33 (0,0))
 trp:W.heap[w.heap.size+1+1]?=some (.cells #[.string tp,.string tq] 35 (0,0))
 res:W.heap[w.heap.size+1+1+1]?=some (.cells #[.int .i64 0] 43 (0,0))
 row:SLs W w.heap.size A rs
 tab:Tab W
 bel:Below w.heap.size w W
theorem FkK.next {w:World} {cs:Array Value} {nm m o z s u h tp tq:ByteArray} {A:Option Addr} {n c:Nat} {rs:List ByteArray} {W:World} {W':World} (k:FkK w cs nm m o z s u h A n c rs tp tq W) (hb:Below W.heap.size W W'):FkK w cs nm m o z s u h A n c rs tp tq W':=by
 have l2:=(Array.getElem?_eq_some_iff.1 k.res).1;exact ⟨(hb.block _ (by omega)).trans k.par,(hb.block _ (by omega)).trans k.key,(hb.block _ (by omega)).trans k.trp,(hb.block _ l2).trans k.res,k.row.below (hb.mono k.bel.size),k.tab.below hb,k.bel.trans (hb.mono k.bel.size)⟩
theorem FkK.lt {w:World} {cs:Array Value} {nm m o z s u h tp tq:ByteArray} {A:Option Addr} {n c:Nat} {rs:List ByteArray} {W:World} (k:FkK w cs nm m o z s u h A n c rs tp tq W):w.heap.size+1+1+1<W.heap.size:=(Array.getElem?_eq_some_iff.1 k.res).1
theorem FkK.cells {w:World} {cs:Array Value} {nm m o z s u h tp tq:ByteArray} {A:Option Addr} {n c:Nat} {rs:List ByteArray} {W:World} (k:FkK w cs nm m o z s u h A n c rs tp tq W) :
  W.cell? ⟨w.heap.size+1,1,none⟩=some (.string m)∧W.cell? ⟨w.heap.size+1,2,none⟩=some (.string o)∧W.cell? ⟨w.heap.size+1+1,0,none⟩=some (.string tp)∧W.cell? ⟨w.heap.size+1+1,1,none⟩=some (.string tq) ∧
  W.cell? ⟨w.heap.size+1+1+1,0,none⟩=some (.int .i64 0)∧W.frozen? ⟨w.heap.size+1+1+1,0,none⟩=false:=by
 refine ⟨?_,?_,?_,?_,?_,?_⟩<;>simp [World.cell?,World.frozen?,k.key,k.res,k.trp]
theorem FkK.start (w:World) (cs:Array Value) (nm m o z s u h tp tq:ByteArray) (A:Option Addr) (n c:Nat) (rs:List ByteArray) (hs:SLs w w.heap.size A rs) (hT:Tab w) :
  FkK w cs nm m o z s u h A n c rs tp tq ((((w.alloc (.cells cs 30)).alloc (.cells #[.string nm,.string m,.string o,.string z,.string s,.slice A n c,.string u,.string h] 33)).alloc (.cells #[.string tp,.string tq] 35)).alloc (.cells #[.int .i64 0] 43)):=by
 have hb:Below w.heap.size w ((((w.alloc (.cells cs 30)).alloc (.cells #[.string nm,.string m,.string o,.string z,.string s,.slice A n c,.string u,.string h] 33)).alloc (.cells #[.string tp,.string tq] 35)).alloc (.cells #[.int .i64 0] 43)):=((((Below.refl _ _).alloc (Nat.le_refl _) _).alloc (by simp) _).alloc (by simp;omega) _).alloc (by simp;omega) _;have h0:=heap_alloc_new w (.cells cs 30);have h1:=heap_alloc_new (w.alloc (.cells cs 30)) (.cells #[.string nm,.string m,.string o,.string z,.string s,.slice A n c,.string u,.string h] 33);have h2:=heap_alloc_new ((w.alloc (.cells cs 30)).alloc (.cells #[.string nm,.string m,.string o,.string z,.string s,.slice A n c,.string u,.string h] 33)) (.cells #[.string tp,.string tq] 35);have h3:=heap_alloc_new (((w.alloc (.cells cs 30)).alloc (.cells #[.string nm,.string m,.string o,.string z,.string s,.slice A n c,.string u,.string h] 33)).alloc (.cells #[.string tp,.string tq] 35)) (.cells #[.int .i64 0] 43);simp only [World.size_alloc] at h1 h2 h3
 exact ⟨(heap_alloc_old _ _ (by simp;omega)).trans ((heap_alloc_old _ _ (by simp;omega)).trans ((heap_alloc_old _ _ (by simp)).trans h0)),(heap_alloc_old _ _ (by simp<;>omega)).trans ((heap_alloc_old _ _ (by simp)).trans h1),(heap_alloc_old _ _ (by simp)).trans h2,h3,hs.below hb,(((hT.alloc _).alloc _).alloc _).alloc _,hb⟩
theorem FkK.ky {w:World} {cs:Array Value} {nm m o z s u h tp tq:ByteArray} {A:Option Addr} {n c:Nat} {rs:List ByteArray} {W:World} (k:FkK w cs nm m o z s u h A n c rs tp tq W) :
  KyAt (W.heap.size+1) W.heap.size z s u h A n c rs (W.alloc (.cells #[.string nm,.string m,.string o,.string z,.string s,.slice A n c,.string u,.string h] 33)) :=
 ⟨by simp [go_sem],by simp [go_sem],by simp [go_sem],by simp [go_sem],by simp [go_sem],((k.row.more k.bel.size).to ((Below.refl _ _).alloc (Nat.le_refl _) _)).more (by simp),by omega⟩
theorem fk_end1 {F:Fence} {n:Nat} {tmps:Array Value} {R:Ending→World→Prop} {W:World} {x:Int} {b D:Nat} (hp:tmps.getD 6 undef=.pointer (some ⟨b,0,none⟩)) (hc:W.cell? ⟨b,0,none⟩=some (.int .i64 x)) (hD:b≠D)
  (hK:W.heap[D]?=some (.deferred (some []))) (hR:R (.returned (.int .i64 x)) (W.putObj D (.deferred none))) :
  LeavesInM F n Tryz.prog Tryz.f36 tmps R [{ target:=.collected D,args:=#[] }] .returning W :=
 ⟨by simp,.inl ⟨_,_,rfl,run_takeDeferred hK,by
  have hp':tmps[6]?.getD undef=.pointer (some ⟨b,0,none⟩):=by simpa using hp
  have hc':=(put_cell (o':=.deferred none) hD).trans hc
  exact ⟨.int .i64 x,by simp [results,Tryz.f36,go_sem,hp',hc'],hR⟩⟩⟩
theorem iss_Fits_ok (ch sl mm mo mg mh wm wo wg wh se at_ ha el es bl ma nm m o z s u h tp tq:ByteArray) (A:Option Addr) (n c:Nat) (rs:List ByteArray) (w:World) (sm:m.size≤8) (hn:rs.length=n) (hm:n≤1000) (hs:SLs w w.heap.size A rs) (hT:Tab w)
  (hck:checkS m o tp tq=0) (hfit:∀ x∈basL z s u h rs,fitB m o tp tq x=true)
  (hC:∀ wq,Below w.heap.size w wq→Calls Tryz.prog 33 #[.agg #[.string ch,.string sl,.string mm,.string mo,.string mg,.string mh,.string wm,.string wo,.string wg,.string wh,.string se,.string at_,.string ha,.string el,.string es,.string bl,.string ma],.agg #[.string nm,.string m,.string o,.string z,.string s,.slice A n c,.string u,.string h]] wq fun e w'=>e=.returned (.int .i64 0)∧Below wq.heap.size wq w') :
  Calls Tryz.prog 36 #[.agg #[.string ch,.string sl,.string mm,.string mo,.string mg,.string mh,.string wm,.string wo,.string wg,.string wh,.string se,.string at_,.string ha,.string el,.string es,.string bl,.string ma],.agg #[.string nm,.string m,.string o,.string z,.string s,.slice A n c,.string u,.string h],.agg #[.string tp,.string tq]] w fun e w'=>e=.returned (.int .i64 0)∧Below w.heap.size w w':=by
 have HC0:=Lib.hid (FkK.start w #[.string ch,.string sl,.string mm,.string mo,.string mg,.string mh,.string wm,.string wo,.string wg,.string wh,.string se,.string at_,.string ha,.string el,.string es,.string bl,.string ma] nm m o z s u h tp tq A n c rs hs hT);obtain ⟨W0,hW0⟩:∃ W0,((((w.alloc (.cells #[.string ch,.string sl,.string mm,.string mo,.string mg,.string mh,.string wm,.string wo,.string wg,.string wh,.string se,.string at_,.string ha,.string el,.string es,.string bl,.string ma] 30)).alloc (.cells #[.string nm,.string m,.string o,.string z,.string s,.slice A n c,.string u,.string h] 33)).alloc (.cells #[.string tp,.string tq] 35)).alloc (.cells #[.int .i64 0] 43))=W0:=⟨_,rfl⟩;rw [hW0] at HC0;have HKC:=Lib.hid hC;have HN:=Lib.hid hn;have HM:=Lib.hid hm;have HFIT:=Lib.hid hfit;have KR:=Lib.hid (fun wq hT=>rsagroup_Check m o tp tq wq sm hT);rw [hck] at KR;have KSQ:=Lib.hid (fun x wq hT=>rsagroup_IsSquare m o tp tq x wq sm hT);have KGE:=Lib.hid (fun x wq hT=>rsagroup_IsGenerator m o tp tq x wq sm hT);clear hs hC hn hm hfit hck hT;refine (callsIn_wide (n:=5)).1 ?_;refine callsIn_of_wp_marks Tryz.func36 rfl trivial ?_ rfl;simp only [Tryz.ntmps36,List.size_toArray,List.length_cons,List.length_nil,Nat.reduceAdd,Nat.reduceSub,Array.replicate_succ,Array.replicate_zero,List.push_toArray,List.append_toArray,List.nil_append,List.cons_append]
 gi_wp2_with (first
  | (refine wpListIn_load_row rfl 30 _ rfl _ rfl 30 _ (0,0) _ HC0.out.par Tryz.underlying30 rfl (info17'.trans rfl) ?_)
  | (refine wpListIn_load_row rfl 33 _ rfl _ rfl 33 _ (0,0) _ HC2.out.key Tryz.underlying33 rfl (info8'.trans rfl) ?_)
  | (refine wpListIn_load_row rfl 33 _ rfl _ rfl 33 _ (0,0) _ HC0.out.key Tryz.underlying33 rfl (info8'.trans rfl) ?_)
  | (refine ⟨trivial,?_⟩;gi_at_call 33;(with_reducible refine (callsIn_wide.2 (HKC.out _ HC0.out.bel)).mono ?_);rintro e w1 ⟨rfl,hb1⟩
     have HC1:=Lib.hid (HC0.out.next hb1);obtain ⟨k1,k2,k3,k4,r0,f0⟩:=HC1.out.cells
     clear hb1)
  | (refine ⟨trivial,?_⟩;gi_at_call 84;(with_reducible refine (callsIn_wide.2 (KR.out _ HC1.out.tab)).mono ?_);rintro e w2 ⟨rfl,hb2⟩
     have HC2:=Lib.hid (HC1.out.next hb2);obtain ⟨k1,k2,k3,k4,r0,f0⟩:=HC2.out.cells
     clear hb2)
  | (refine ⟨trivial,?_⟩;gi_at_call 79;(with_reducible refine (callsIn_wide.2 (iss_bases _ _ _ _ _ _ _ _ _)).mono ?_);rintro e w3 ⟨rfl,rfl⟩))
 have HKy:=Lib.hid HC2.out.ky;have HCL:=Lib.hid (HC2.out.next ((Below.refl _ _).alloc (Nat.le_refl _) (.cells #[.string nm,.string m,.string o,.string z,.string s,.slice A n c,.string u,.string h] 33)));have HSZ:Hid ((w2.alloc (.cells #[.string nm,.string m,.string o,.string z,.string s,.slice A n c,.string u,.string h] 33)).heap.size=w2.heap.size+1):=Lib.hid (by simp);obtain ⟨L,hL⟩:∃ L,w2.alloc (.cells #[.string nm,.string m,.string o,.string z,.string s,.slice A n c,.string u,.string h] 33)=L:=⟨_,rfl⟩;obtain ⟨Bk,hBk⟩:∃ Bk,w2.heap.size=Bk:=⟨_,rfl⟩;rw [hL] at HKy HCL HSZ ⊢;rw [hBk] at HKy HSZ ⊢;clear hL hBk k1 k2 k3 k4 r0 f0;have hsz:L.heap.size=Bk+1:=HSZ.out;have HST:=Lib.hid (bases_stops 4 (by omega) (Bk+1) Bk z s u h A n c rs HN.out HM.out L HKy.out (by omega));clear hsz;have HLW:=Lib.hid HCL.out.lt
 apply wpIn_rangeFunc_ownF (encs:=encB) (N:=4+n) (Kp:=Below (Bk+1)) (w0:=L) rfl (by omega) (gf:=135) (lb:=#[.pointer (some ⟨Bk,0,none⟩)]) rfl trivial (enters_of Tryz.func135 (by kernel_rfl) rfl)
  HST.out belowK_t (belowK_b (by rw [HSZ.out];exact Nat.le_refl _)) (Below.refl _ _) (fun _=>rfl)
  (CkI (fitB m o tp tq) L) (CkX (fitB m o tp tq) w (w.heap.size+1+1+1) 13 []) (ckI_own _ L) (ckX_own _ w L _ _ [] HCL.out.bel.size (fun D hD=>by cases hD)) ⟨fun x hx=>(by cases hx),Below.refl _ _⟩
 case hassign =>
  intro l x W K hK;unfold encB
  gi_wp2
  exact hK
 case hbody =>
  rintro l pre ⟨kd,x⟩ W ⟨hpx,hbL⟩ _;have HPX:=Lib.hid hpx;have HBL:=Lib.hid hbL;have HCB:=Lib.hid (HCL.out.next hbL);obtain ⟨k1,k2,k3,k4,r0,f0⟩:=HCB.out.cells;have hBL:Bk+1≤W.heap.size:=by have:=hbL.size;have:=HSZ.out;omega
  have HBLL:=Lib.hid hBL;clear hpx hbL hBL;by_cases h0:kd=0
  · subst h0
    have hf:fitB m o tp tq (0,x)=decide (isSquareS m o tp tq x=(true,0)):=rfl
    have h2:(isSquareS m o tp tq x).1=true→(isSquareS m o tp tq x).2=0:=fun h=>by
     have h3:(decide (elementS m o tp tq x=0)&&squareS (num x) (num tp) (num tq))=true:=h;rw [Bool.and_eq_true,decide_eq_true_eq] at h3;exact h3.1
    have KX:=KSQ.out x;obtain ⟨rb,re,hr⟩:∃ rb re,isSquareS m o tp tq x=(rb,re):=⟨_,_,rfl⟩;rw [hr] at hf h2 KX;have KXX:=Lib.hid KX;clear KX hr
    cases rb
    · have HV:Hid (fitB m o tp tq (0,x)=false):=Lib.hid (by rw [hf];exact decide_eq_false (by simp))
      clear hf h2
      gi_wp2_with (refine ⟨trivial,?_⟩;gi_at_call 86;(with_reducible refine (CallsIn.inRound l (callsIn_wide.2 (KXX.out _ HCB.out.tab))).mono ?_);rintro e w5 ⟨rfl,hb5⟩;have HB5:=Lib.hid hb5;obtain ⟨k1,k2,k3,k4,r0,f0⟩:=(HCB.out.next hb5).cells;clear hb5)
      (try (refine ⟨trivial,?_⟩;gi_wp2_with fail))
      exact ⟨(keeps_below' HB5.out).trans (KeepsOthers.setCell _ _ _),⟨⟨rfl,⟨(0,x),by simp,HV.out⟩,World.cell?_setCell_same _ _ _ r0⟩,((HCB.out.next HB5.out).bel.setCell (p:=⟨w.heap.size+1+1+1,0,none⟩) (by show w.heap.size≤w.heap.size+1+1+1;omega) _)⟩,fun E hE=>(by cases hE)⟩
    · obtain rfl:re=0:=h2 rfl
      have HV:Hid (fitB m o tp tq (0,x)=true):=Lib.hid (by rw [hf];exact decide_eq_true rfl);clear hf h2
      gi_wp2_with (refine ⟨trivial,?_⟩;gi_at_call 86;(with_reducible refine (CallsIn.inRound l (callsIn_wide.2 (KXX.out _ HCB.out.tab))).mono ?_);rintro e w5 ⟨rfl,hb5⟩;have HB5:=Lib.hid hb5;clear hb5)
      (try (refine ⟨trivial,?_⟩;gi_wp2_with fail))
      exact ⟨keeps_below' HB5.out,HB5.out.mono HBLL.out,fun y hy=>(List.mem_append.1 hy).elim (HPX.out y) (fun e=>by simp at e;subst e;exact HV.out),HBL.out.trans (HB5.out.mono HBL.out.size)⟩
  · have hf:fitB m o tp tq (kd,x)=decide (isGenS m o tp tq x=(true,0)):=by unfold fitB;rw [if_neg h0]
    have h2:(isGenS m o tp tq x).1=true→(isGenS m o tp tq x).2=0:=fun h=>by
     have h3:(decide (elementS m o tp tq x=0)&&(squareS (num x) (num tp) (num tq)&&(!decide (num x%num tp=1)&&!decide (num x%num tq=1))))=true:=h;rw [Bool.and_eq_true,decide_eq_true_eq] at h3;exact h3.1
    have KX:=KGE.out x;obtain ⟨rb,re,hr⟩:∃ rb re,isGenS m o tp tq x=(rb,re):=⟨_,_,rfl⟩;rw [hr] at hf h2 KX;have KXX:=Lib.hid KX;have p3:(kd==0)=false:=by simpa using h0
    clear KX hr h0
    cases rb
    · have HV:Hid (fitB m o tp tq (kd,x)=false):=Lib.hid (by rw [hf];exact decide_eq_false (by simp))
      clear hf h2
      gi_wp2_with (refine ⟨trivial,?_⟩;gi_at_call 85;(with_reducible refine (CallsIn.inRound l (callsIn_wide.2 (KXX.out _ HCB.out.tab))).mono ?_);rintro e w5 ⟨rfl,hb5⟩;have HB5:=Lib.hid hb5;obtain ⟨k1,k2,k3,k4,r0,f0⟩:=(HCB.out.next hb5).cells;clear hb5)
      (try (refine ⟨trivial,?_⟩;gi_wp2_with fail))
      exact ⟨(keeps_below' HB5.out).trans (KeepsOthers.setCell _ _ _),⟨⟨rfl,⟨(kd,x),by simp,HV.out⟩,World.cell?_setCell_same _ _ _ r0⟩,((HCB.out.next HB5.out).bel.setCell (p:=⟨w.heap.size+1+1+1,0,none⟩) (by show w.heap.size≤w.heap.size+1+1+1;omega) _)⟩,fun E hE=>(by cases hE)⟩
    · obtain rfl:re=0:=h2 rfl
      have HV:Hid (fitB m o tp tq (kd,x)=true):=Lib.hid (by rw [hf];exact decide_eq_true rfl);clear hf h2
      gi_wp2_with (refine ⟨trivial,?_⟩;gi_at_call 85;(with_reducible refine (CallsIn.inRound l (callsIn_wide.2 (KXX.out _ HCB.out.tab))).mono ?_);rintro e w5 ⟨rfl,hb5⟩;have HB5:=Lib.hid hb5;clear hb5)
      (try (refine ⟨trivial,?_⟩;gi_wp2_with fail))
      exact ⟨keeps_below' HB5.out,HB5.out.mono HBLL.out,fun y hy=>(List.mem_append.1 hy).elim (HPX.out y) (fun e=>by simp at e;subst e;exact HV.out),HBL.out.trans (HB5.out.mono HBL.out.size)⟩
 case hdone =>
  rintro D ys W hD rfl ⟨hall,hbL⟩ hK;have HC3:=Lib.hid (HCL.out.next hbL);obtain ⟨k1,k2,k3,k4,r0,f0⟩:=HC3.out.cells;have HK1:=Lib.hid hK;have HD:=Lib.hid (show w.heap.size+1+1+1<D by have:=HLW.out;omega);clear hall hbL hK hD
  gi_wp2
  have hd:=HD.out;have hk1:=(KeepsOthers.setCell W ⟨w.heap.size+1+1+1,0,none⟩ (.int .i64 0)).same _ _ HK1.out rfl;have hb5:=HC3.out.bel.setCell (p:=⟨w.heap.size+1+1+1,0,none⟩) (by show w.heap.size≤w.heap.size+1+1+1;omega) (.int .i64 0);exact fk_end1 rfl (World.cell?_setCell_same _ _ _ r0) (by omega) hk1 ⟨rfl,put_below hb5 (by omega) hk1 (Nat.le_refl _)⟩
 case hstop =>
  rintro D2 cc pre W hD2 hpre ⟨⟨⟨rfl,⟨x,hx,hv⟩,hc⟩,hbw⟩,hds⟩ hK2;exact absurd (HFIT.out x (hpre.subset hx)) (by rw [hv];decide)
end Go.Proofs.YtiacajjpkncomaaGreatDoor
