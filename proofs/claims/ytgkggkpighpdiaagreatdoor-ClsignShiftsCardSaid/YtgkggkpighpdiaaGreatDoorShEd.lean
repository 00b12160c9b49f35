/- clsign.Sign at the chapter's example. -/
import Derived.Test.YtgkggkpighpdiaaGreatDoorShJB
import Derived.Test.YtgkggkpighpdiaaGreatDoorShJ2
import Derived.Test.YtgkggkpighpdiaaGreatDoorShEc
import Derived.Test.YtgkggkpighpdiaaGreatDoorShKw
import Derived.Test.YtgkggkpighpdiaaGreatDoorShJ7
import Derived.Test.YtgkggkpighpdiaaGreatDoorShPC
namespace Go.Proofs.YtgkggkpighpdiaaGreatDoor
open Go.RowKit
set_option maxRecDepth 100000
set_option linter.unusedVariables false
set_option maxHeartbeats 8000000
theorem ex_par : parS (B 2) (B 2) (B 107) (B 53) (B 4) (B 16) (B 77) ⟨#[]⟩ (B 4) (B 9) (B 9) (B 6) (B 9) (B 3) (B 10) (B 2) (B 15)=0:=by decide +kernel
theorem ex_key : keyE 0 ⟨#[105,115,115,117,101,114]⟩ (B 77) ⟨#[]⟩ (B 15) (B 4) (B 4) (B 16) [B 64,B 23,B 1]=0:=by decide +kernel
theorem ex_chk : checkS (B 77) ⟨#[]⟩ (B 7) (B 11)=0:=by decide +kernel
theorem ex_fit : ∀ x ∈ basL (B 15) (B 4) (B 4) (B 16) [B 64,B 23,B 1],fitB (B 77) ⟨#[]⟩ (B 7) (B 11) x=true:=List.all_eq_true.1 (by decide +kernel)
theorem ex_good (z : Int) (h : z=0∨z=3) : goodT [B 0,B 2,B 4,B 1] z=true:=by rcases h with rfl | rfl<;>decide +kernel
theorem ex_ats : ([B 1,B 3,B 5] : List ByteArray).all valid=true:=by decide +kernel
theorem ex_msg : msgA (B 77) (B 9) (B 9) (B 6) [B 64,B 23,B 1] [B 1,B 3,B 5]=(B 64,0):=by decide +kernel
theorem ex_ord : orderS (B 7) (B 11)=(B 15,0):=by decide +kernel
theorem ex_exp : expD 0 [B 0,B 2,B 4,B 1] ⟨#[]⟩ (B 7) (B 11) (B 3) (B 10) 0=(0,7,3):=by decide +kernel
theorem ex_bel : belowS [B 0,B 2,B 4,B 1] ⟨#[]⟩ 3 2=(0,1):=by decide +kernel
theorem ex_prd : pwE (zipB (num (B 77)) [B 15,B 4,B 64] [(false,B 1),(true,B 1),(true,B 1)]) % num (B 77)=16:=by decide +kernel
theorem ex_has : [B 15,B 4,B 64].all (hasG (B 77) ⟨#[]⟩)=true:=by decide +kernel
theorem ex_grp : groupE (B 77) ⟨#[]⟩=0:=by decide +kernel
theorem ex_gcd : ∀ r ∈ [B 15,B 4,B 64],Nat.gcd (num r) (num (B 77))=1:=by
 intro r hr
 have h:=List.all_eq_true.1 (show ([B 15,B 4,B 64].all fun r=>decide (Nat.gcd (num r) (num (B 77))=1))=true by decide +kernel) r hr
 exact of_decide_eq_true h
theorem ex_zok : zOk [(false,B 1),(true,B 1),(true,B 1)]:=by
 intro e he
 have h:=List.all_eq_true.1 (show ([(false,B 1),(true,B 1),(true,B 1)].all fun e : Bool × ByteArray=>valid e.2&&!(e.1&&e.2.toList.isEmpty))=true by decide +kernel) e he
 rw [Bool.and_eq_true] at h
 exact ⟨h.1,by have h2:=h.2;cases hq : (e.1&&e.2.toList.isEmpty)<;>simp [hq] at h2 ⊢⟩
structure SgB (w : World) (ks : Array Value) (A A2 A3 : Option Addr) (n c : Nat) (z : Int) (W : World) : Prop where
 par : W.heap[w.heap.size]?=some (.cells #[.string (B 2),.string (B 2),.string (B 107),.string (B 53),.string (B 4),.string (B 16),.string (B 77),.string ⟨#[]⟩,.string (B 4),.string (B 9),.string (B 9),.string (B 6),.string (B 9),.string (B 3),.string (B 10),.string (B 2),.string (B 15)] 30 (0,0))
 key : W.heap[w.heap.size+1]?=some (.cells ks 33 (0,0))
 trp : W.heap[w.heap.size+1+1]?=some (.cells #[.string (B 7),.string (B 11)] 35 (0,0))
 tap : W.heap[w.heap.size+1+1+1]?=some (.cells #[.slice A3 n c,.string ⟨#[]⟩,.int .i64 z] 39 (0,0))
 rsg : W.heap[w.heap.size+1+1+1+1]?=some (.cells #[.string ⟨#[]⟩,.string ⟨#[]⟩,.string ⟨#[]⟩] 51 (0,0))
 rtp : W.heap[w.heap.size+1+1+1+1+1]?=some (.cells #[.slice none 0 0,.string ⟨#[]⟩,.int .i64 0] 39 (0,0))
 row : SLs W w.heap.size A [B 64,B 23,B 1]
 att : SLs W w.heap.size A2 [B 1,B 3,B 5]
 bel : Below w.heap.size w W
theorem SgB.lt {w : World} {ks : Array Value} {A A2 A3 : Option Addr} {n c : Nat} {z : Int} {W : World} (k : SgB w ks A A2 A3 n c z W) : w.heap.size+1+1+1+1+1 < W.heap.size:=(Array.getElem?_eq_some_iff.1 k.rtp).1
theorem SgB.next {w : World} {ks : Array Value} {A A2 A3 : Option Addr} {n c : Nat} {z : Int} {W : World} {W' : World} (k : SgB w ks A A2 A3 n c z W) (hb : Below W.heap.size W W') : SgB w ks A A2 A3 n c z W':=by
 have l2:=k.lt
 exact ⟨(hb.block _ (by omega)).trans k.par,(hb.block _ (by omega)).trans k.key,(hb.block _ (by omega)).trans k.trp,(hb.block _ (by omega)).trans k.tap,(hb.block _ (by omega)).trans k.rsg,(hb.block _ l2).trans k.rtp,k.row.below (hb.mono k.bel.size),k.att.below (hb.mono k.bel.size),k.bel.trans (hb.mono k.bel.size)⟩
theorem SgB.drew {w : World} {ks : Array Value} {A A2 A3 : Option Addr} {n c : Nat} {z : Int} {W : World} (k : SgB w ks A A2 A3 n c z W) : SgB w ks A A2 A3 n c z W.drew:=k.next ((Below.refl _ _).drew)
theorem SgB.alloc {w : World} {ks : Array Value} {A A2 A3 : Option Addr} {n c : Nat} {z : Int} {W : World} (k : SgB w ks A A2 A3 n c z W) (ob : Obj) : SgB w ks A A2 A3 n c z (W.alloc ob):=k.next ((Below.refl _ _).alloc (Nat.le_refl _) _)
theorem SgB.tc {w : World} {ks : Array Value} {A A2 A3 : Option Addr} {n c : Nat} {z : Int} {W : World} (k : SgB w ks A A2 A3 n c z W) : W.cell? ⟨w.heap.size+1+1+1,0,none⟩=some (.slice A3 n c)∧W.cell? ⟨w.heap.size+1+1+1,1,none⟩=some (.string ⟨#[]⟩)∧W.cell? ⟨w.heap.size+1+1+1,2,none⟩=some (.int .i64 z) ∧
  W.frozen? ⟨w.heap.size+1+1+1,0,none⟩=false∧W.frozen? ⟨w.heap.size+1+1+1,1,none⟩=false∧W.frozen? ⟨w.heap.size+1+1+1,2,none⟩=false:=by
 refine ⟨?_,?_,?_,?_,?_,?_⟩<;>simp [World.cell?,World.frozen?,k.tap]
theorem SgB.gc {w : World} {ks : Array Value} {A A2 A3 : Option Addr} {n c : Nat} {z : Int} {W : World} (k : SgB w ks A A2 A3 n c z W) : W.cell? ⟨w.heap.size+1+1,0,none⟩=some (.string (B 7))∧W.cell? ⟨w.heap.size+1+1,1,none⟩=some (.string (B 11)):=by
 refine ⟨?_,?_⟩<;>simp [World.cell?,k.trp]
theorem SgB.pc {w : World} {ks : Array Value} {A A2 A3 : Option Addr} {n c : Nat} {z : Int} {W : World} (k : SgB w ks A A2 A3 n c z W) : W.cell? ⟨w.heap.size,15,none⟩=some (.string (B 2)):=cell_of_row W _ 15 _ _ _ k.par
theorem SgB.kc {w : World} {AA A A2 A3 : Option Addr} {n c nk ck : Nat} {z : Int} {W : World} (k : SgB w #[.string ⟨#[105,115,115,117,101,114]⟩,.string (B 77),.string ⟨#[]⟩,.string (B 15),.string (B 4),.slice AA nk ck,.string (B 4),.string (B 16)] A A2 A3 n c z W) :
  W.cell? ⟨w.heap.size+1,1,none⟩=some (.string (B 77))∧W.cell? ⟨w.heap.size+1,2,none⟩=some (.string ⟨#[]⟩)∧W.cell? ⟨w.heap.size+1,3,none⟩=some (.string (B 15))∧W.cell? ⟨w.heap.size+1,4,none⟩=some (.string (B 4)):=by
 refine ⟨?_,?_,?_,?_⟩<;>simp [World.cell?,k.key]
theorem SgB.rc {w : World} {ks : Array Value} {A A2 A3 : Option Addr} {n c : Nat} {z : Int} {W : World} (k : SgB w ks A A2 A3 n c z W) : (W.cell? ⟨w.heap.size+1+1+1+1,0,none⟩=some (.string ⟨#[]⟩)∧W.cell? ⟨w.heap.size+1+1+1+1,1,none⟩=some (.string ⟨#[]⟩)∧W.cell? ⟨w.heap.size+1+1+1+1,2,none⟩=some (.string ⟨#[]⟩)) ∧
  (W.frozen? ⟨w.heap.size+1+1+1+1,0,none⟩=false∧W.frozen? ⟨w.heap.size+1+1+1+1,1,none⟩=false∧W.frozen? ⟨w.heap.size+1+1+1+1,2,none⟩=false) ∧
  (W.cell? ⟨w.heap.size+1+1+1+1+1,0,none⟩=some (.slice none 0 0)∧W.cell? ⟨w.heap.size+1+1+1+1+1,1,none⟩=some (.string ⟨#[]⟩)∧W.cell? ⟨w.heap.size+1+1+1+1+1,2,none⟩=some (.int .i64 0)) ∧
  (W.frozen? ⟨w.heap.size+1+1+1+1+1,0,none⟩=false∧W.frozen? ⟨w.heap.size+1+1+1+1+1,1,none⟩=false∧W.frozen? ⟨w.heap.size+1+1+1+1+1,2,none⟩=false):=by
 refine ⟨⟨?_,?_,?_⟩,⟨?_,?_,?_⟩,⟨?_,?_,?_⟩,?_,?_,?_⟩<;>simp [World.cell?,World.frozen?,k.rsg,k.rtp]
theorem SgB.put {A' : Option Addr} {n' c' : Nat} {z' : Int} {w : World} {ks : Array Value} {A A2 A3 : Option Addr} {n c : Nat} {z : Int} {W : World} (k : SgB w ks A A2 A3 n c z W) :
  SgB w ks A A2 A' n' c' z' (((W.setCell ⟨w.heap.size+1+1+1,0,none⟩ (.slice A' n' c')).setCell ⟨w.heap.size+1+1+1,1,none⟩ (.string ⟨#[]⟩)).setCell ⟨w.heap.size+1+1+1,2,none⟩ (.int .i64 z')):=by
 have le : w.heap.size≤w.heap.size+1+1+1:=Nat.le_add_right _ 3
 have hb : Below w.heap.size W (((W.setCell ⟨w.heap.size+1+1+1,0,none⟩ (.slice A' n' c')).setCell ⟨w.heap.size+1+1+1,1,none⟩ (.string ⟨#[]⟩)).setCell ⟨w.heap.size+1+1+1,2,none⟩ (.int .i64 z')):=(((Below.refl _ _).setCell (p:=⟨w.heap.size+1+1+1,0,none⟩) le _).setCell (p:=⟨w.heap.size+1+1+1,1,none⟩) le _).setCell (p:=⟨w.heap.size+1+1+1,2,none⟩) le _
 have hp : ∀ (b : Nat),b≠w.heap.size+1+1+1→(((W.setCell ⟨w.heap.size+1+1+1,0,none⟩ (.slice A' n' c')).setCell ⟨w.heap.size+1+1+1,1,none⟩ (.string ⟨#[]⟩)).setCell ⟨w.heap.size+1+1+1,2,none⟩ (.int .i64 z')).heap[b]?=W.heap[b]?:=fun b hb =>
  (Below.heap_setCell _ _ _ _ hb).trans ((Below.heap_setCell _ _ _ _ hb).trans (Below.heap_setCell _ _ _ _ hb))
 exact ⟨(hp _ (by omega)).trans k.par,(hp _ (by omega)).trans k.key,(hp _ (by omega)).trans k.trp,row3_set k.tap,(hp _ (by omega)).trans k.rsg,(hp _ (by omega)).trans k.rtp,k.row.below hb,k.att.below hb,k.bel.trans hb⟩
theorem SgB.end6 {x0 x1 x2 x3 x4 x5 : Value} {w : World} {ks : Array Value} {A A2 A3 : Option Addr} {n c : Nat} {z : Int} {W : World} (k : SgB w ks A A2 A3 n c z W) : Below w.heap.size w ((((((W.setCell ⟨w.heap.size+1+1+1+1,0,none⟩ x0).setCell ⟨w.heap.size+1+1+1+1,1,none⟩ x1).setCell ⟨w.heap.size+1+1+1+1,2,none⟩ x2).setCell ⟨w.heap.size+1+1+1+1+1,0,none⟩ x3).setCell ⟨w.heap.size+1+1+1+1+1,1,none⟩ x4).setCell ⟨w.heap.size+1+1+1+1+1,2,none⟩ x5).drew:=by
 have le4 : w.heap.size≤w.heap.size+1+1+1+1:=Nat.le_add_right _ 4
 have le5 : w.heap.size≤w.heap.size+1+1+1+1+1:=Nat.le_add_right _ 5
 exact ((((((k.bel.setCell (p:=⟨w.heap.size+1+1+1+1,0,none⟩) le4 _).setCell (p:=⟨w.heap.size+1+1+1+1,1,none⟩) le4 _).setCell (p:=⟨w.heap.size+1+1+1+1,2,none⟩) le4 _).setCell (p:=⟨w.heap.size+1+1+1+1+1,0,none⟩) le5 _).setCell (p:=⟨w.heap.size+1+1+1+1+1,1,none⟩) le5 _).setCell (p:=⟨w.heap.size+1+1+1+1+1,2,none⟩) le5 _).drew
theorem SLs.farE3 {W : World} {g b : Nat} {x y t : Value} {vals : List ByteArray} (hs : SLs W W.heap.size (some ⟨g,0,none⟩) vals) (hg : b < g) :
  SLs (((W.setCell ⟨b,0,none⟩ x).setCell ⟨b,1,none⟩ y).setCell ⟨b,2,none⟩ t) (((W.setCell ⟨b,0,none⟩ x).setCell ⟨b,1,none⟩ y).setCell ⟨b,2,none⟩ t).heap.size (some ⟨g,0,none⟩) vals:=by
 intro hne
 obtain ⟨ad,e,hb',hc⟩:=hs hne
 have e2 : ad.block=g:=by cases e;rfl
 exact ⟨ad,e,by simpa using hb',fun j hj=>hop3 (a:=ad.add j) (by rw [show (ad.add j).block=ad.block by unfold Addr.add;split<;>rfl];omega) (hc j hj)⟩
theorem SgB.start (w : World) (ks : Array Value) (A A2 A3 : Option Addr) (n c : Nat) (z : Int) (h1 : SLs w w.heap.size A [B 64,B 23,B 1]) (h2 : SLs w w.heap.size A2 [B 1,B 3,B 5]) :
  SgB w ks A A2 A3 n c z ((((((w.alloc (.cells #[.string (B 2),.string (B 2),.string (B 107),.string (B 53),.string (B 4),.string (B 16),.string (B 77),.string ⟨#[]⟩,.string (B 4),.string (B 9),.string (B 9),.string (B 6),.string (B 9),.string (B 3),.string (B 10),.string (B 2),.string (B 15)] 30)).alloc (.cells ks 33)).alloc (.cells #[.string (B 7),.string (B 11)] 35)).alloc (.cells #[.slice A3 n c,.string ⟨#[]⟩,.int .i64 z] 39)).alloc (.cells #[.string ⟨#[]⟩,.string ⟨#[]⟩,.string ⟨#[]⟩] 51)).alloc (.cells #[.slice none 0 0,.string ⟨#[]⟩,.int .i64 0] 39)):=by
 have key : ∀ (W : World) (cs : Array Value) (T : TypeId) (k : Nat),W.heap.size=k→(W.alloc (.cells cs T)).heap[k]?=some (.cells cs T (0,0))∧(W.alloc (.cells cs T)).heap.size=k+1:=fun W cs T k hk=>by
  subst hk;exact ⟨heap_alloc_new W _,by simp⟩
 have kb : ∀ (W : World) (ob : Obj) (b : Nat),b < W.heap.size→(W.alloc ob).heap[b]?=W.heap[b]?:=fun W ob b hb=>Below.heap_alloc _ _ _ hb
 have k0:=key w #[.string (B 2),.string (B 2),.string (B 107),.string (B 53),.string (B 4),.string (B 16),.string (B 77),.string ⟨#[]⟩,.string (B 4),.string (B 9),.string (B 9),.string (B 6),.string (B 9),.string (B 3),.string (B 10),.string (B 2),.string (B 15)] 30 _ rfl
 obtain ⟨W1,hW1⟩ : ∃ W1,W1=w.alloc (.cells #[.string (B 2),.string (B 2),.string (B 107),.string (B 53),.string (B 4),.string (B 16),.string (B 77),.string ⟨#[]⟩,.string (B 4),.string (B 9),.string (B 9),.string (B 6),.string (B 9),.string (B 3),.string (B 10),.string (B 2),.string (B 15)] 30):=⟨_,rfl⟩
 have b1 : Below w.heap.size w W1:=by rw [hW1];exact (Below.refl _ _).alloc (Nat.le_refl _) _
 rw [← hW1] at k0 ⊢
 clear hW1
 have k1:=key W1 ks 33 _ k0.2
 obtain ⟨W2,hW2⟩ : ∃ W2,W2=W1.alloc (.cells ks 33):=⟨_,rfl⟩
 have b2 : Below W1.heap.size W1 W2:=by rw [hW2];exact (Below.refl _ _).alloc (Nat.le_refl _) _
 rw [← hW2] at k1 ⊢
 clear hW2
 have k2:=key W2 #[.string (B 7),.string (B 11)] 35 _ k1.2
 obtain ⟨W3,hW3⟩ : ∃ W3,W3=W2.alloc (.cells #[.string (B 7),.string (B 11)] 35):=⟨_,rfl⟩
 have b3 : Below W2.heap.size W2 W3:=by rw [hW3];exact (Below.refl _ _).alloc (Nat.le_refl _) _
 rw [← hW3] at k2 ⊢
 clear hW3
 have k3:=key W3 #[.slice A3 n c,.string ⟨#[]⟩,.int .i64 z] 39 _ k2.2
 obtain ⟨W4,hW4⟩ : ∃ W4,W4=W3.alloc (.cells #[.slice A3 n c,.string ⟨#[]⟩,.int .i64 z] 39):=⟨_,rfl⟩
 have b4 : Below W3.heap.size W3 W4:=by rw [hW4];exact (Below.refl _ _).alloc (Nat.le_refl _) _
 rw [← hW4] at k3 ⊢
 clear hW4
 have k4:=key W4 #[.string ⟨#[]⟩,.string ⟨#[]⟩,.string ⟨#[]⟩] 51 _ k3.2
 obtain ⟨W5,hW5⟩ : ∃ W5,W5=W4.alloc (.cells #[.string ⟨#[]⟩,.string ⟨#[]⟩,.string ⟨#[]⟩] 51):=⟨_,rfl⟩
 have b5 : Below W4.heap.size W4 W5:=by rw [hW5];exact (Below.refl _ _).alloc (Nat.le_refl _) _
 rw [← hW5] at k4 ⊢
 clear hW5
 have k5:=key W5 #[.slice none 0 0,.string ⟨#[]⟩,.int .i64 0] 39 _ k4.2
 obtain ⟨W6,hW6⟩ : ∃ W6,W6=W5.alloc (.cells #[.slice none 0 0,.string ⟨#[]⟩,.int .i64 0] 39):=⟨_,rfl⟩
 have b6 : Below W5.heap.size W5 W6:=by rw [hW6];exact (Below.refl _ _).alloc (Nat.le_refl _) _
 rw [← hW6] at k5 ⊢
 clear hW6 key kb
 have z1:=k0.2
 have z2:=k1.2
 have z3:=k2.2
 have z4:=k3.2
 have z5:=k4.2
 have c5 : Below W4.heap.size W4 W6:=b5.trans (b6.mono b5.size)
 have c4 : Below W3.heap.size W3 W6:=b4.trans (c5.mono b4.size)
 have c3 : Below W2.heap.size W2 W6:=b3.trans (c4.mono b3.size)
 have c2 : Below W1.heap.size W1 W6:=b2.trans (c3.mono b2.size)
 have c1 : Below w.heap.size w W6:=b1.trans (c2.mono b1.size)
 exact ⟨(c2.block _ (by omega)).trans k0.1,(c3.block _ (by omega)).trans k1.1,(c4.block _ (by omega)).trans k2.1,(c5.block _ (by omega)).trans k3.1,(b6.block _ (by omega)).trans k4.1,k5.1,h1.below c1,h2.below c1,c1⟩
theorem sign_ex (A A2 A3 : Option Addr) (c c2 c3 : Nat) (w : World) (h1 : SLs w w.heap.size A [B 64,B 23,B 1]) (h2 : SLs w w.heap.size A2 [B 1,B 3,B 5]) (h3 : SLs w w.heap.size A3 [B 0,B 2,B 4,B 1]) (hT : Tab w) (hT10 : Tab10 w) :
  Calls Tryz.prog 26 #[.agg #[.string (B 2),.string (B 2),.string (B 107),.string (B 53),.string (B 4),.string (B 16),.string (B 77),.string ⟨#[]⟩,.string (B 4),.string (B 9),.string (B 9),.string (B 6),.string (B 9),.string (B 3),.string (B 10),.string (B 2),.string (B 15)],.agg #[.string ⟨#[105,115,115,117,101,114]⟩,.string (B 77),.string ⟨#[]⟩,.string (B 15),.string (B 4),.slice A 3 c,.string (B 4),.string (B 16)],.agg #[.string (B 7),.string (B 11)],.slice A2 3 c2,.agg #[.slice A3 4 c3,.string ⟨#[]⟩,.int .i64 0]] w fun e w' =>
   (∃ g,e=.returned (.tuple #[.agg #[.string (B 37),.string (B 7),.string (B 1)],.agg #[.slice (some ⟨g,0,none⟩) 4 4,.string ⟨#[]⟩,.int .i64 4],.int .i64 0]))∧Below w.heap.size w w':=by
 have KCH:=Lib.hid (fun wq (hb : Below w.heap.size w wq)=>(show Calls Tryz.prog 27 #[.agg #[.string (B 2),.string (B 2),.string (B 107),.string (B 53),.string (B 4),.string (B 16),.string (B 77),.string ⟨#[]⟩,.string (B 4),.string (B 9),.string (B 9),.string (B 6),.string (B 9),.string (B 3),.string (B 10),.string (B 2),.string (B 15)]] wq fun e w'=>e=.returned (.int .i64 0)∧Below wq.heap.size wq w' by
  have:=params_Check (B 2) (B 2) (B 107) (B 53) (B 4) (B 16) (B 77) ⟨#[]⟩ (B 4) (B 9) (B 9) (B 6) (B 9) (B 3) (B 10) (B 2) (B 15) wq (by decide +kernel) (by decide +kernel) (by decide +kernel) (by decide +kernel) (hT.below hb)
  rw [ex_par] at this
  exact this))
 have KIC:=Lib.hid (fun wq (hb : Below w.heap.size w wq)=>(show Calls Tryz.prog 40 #[.agg #[.string (B 2),.string (B 2),.string (B 107),.string (B 53),.string (B 4),.string (B 16),.string (B 77),.string ⟨#[]⟩,.string (B 4),.string (B 9),.string (B 9),.string (B 6),.string (B 9),.string (B 3),.string (B 10),.string (B 2),.string (B 15)],.agg #[.string ⟨#[105,115,115,117,101,114]⟩,.string (B 77),.string ⟨#[]⟩,.string (B 15),.string (B 4),.slice A 3 c,.string (B 4),.string (B 16)]] wq fun e w'=>e=.returned (.int .i64 0)∧Below wq.heap.size wq w' by
  have:=iss_Check 0 (B 2) (B 2) (B 107) (B 53) (B 4) (B 16) (B 77) ⟨#[]⟩ (B 4) (B 9) (B 9) (B 6) (B 9) (B 3) (B 10) (B 2) (B 15) ⟨#[105,115,115,117,101,114]⟩ (B 77) ⟨#[]⟩ (B 15) (B 4) (B 4) (B 16) A 3 c [B 64,B 23,B 1] wq (by decide +kernel) (by decide +kernel) rfl (by decide) ((h1.below hb).more hb.size) (fun wq2 h2=>KCH.out _ (hb.trans (h2.mono hb.size)))
  rw [ex_key] at this
  exact this))
 have KFI:=Lib.hid (fun wq (hb : Below w.heap.size w wq)=>(show Calls Tryz.prog 61 #[.agg #[.string (B 2),.string (B 2),.string (B 107),.string (B 53),.string (B 4),.string (B 16),.string (B 77),.string ⟨#[]⟩,.string (B 4),.string (B 9),.string (B 9),.string (B 6),.string (B 9),.string (B 3),.string (B 10),.string (B 2),.string (B 15)],.agg #[.string ⟨#[105,115,115,117,101,114]⟩,.string (B 77),.string ⟨#[]⟩,.string (B 15),.string (B 4),.slice A 3 c,.string (B 4),.string (B 16)],.agg #[.string (B 7),.string (B 11)]] wq fun e w'=>e=.returned (.int .i64 0)∧Below wq.heap.size wq w' from
  iss_Fits_ok (B 2) (B 2) (B 107) (B 53) (B 4) (B 16) (B 77) ⟨#[]⟩ (B 4) (B 9) (B 9) (B 6) (B 9) (B 3) (B 10) (B 2) (B 15) ⟨#[105,115,115,117,101,114]⟩ (B 77) ⟨#[]⟩ (B 15) (B 4) (B 4) (B 16) (B 7) (B 11) A 3 c [B 64,B 23,B 1] wq (by decide +kernel) rfl (by decide) ((h1.below hb).more hb.size) (hT.below hb) ex_chk ex_fit (fun wq2 h2=>KIC.out _ (hb.trans (h2.mono hb.size)))))
 have KFO:=Lib.hid (fun wq (hs : SLs wq w.heap.size A2 [B 1,B 3,B 5])=>(show Calls Tryz.prog 41 #[.slice A2 3 c2] wq fun e w'=>e=.returned (.bool true)∧wq=w' by
  have:=cl_formed [B 1,B 3,B 5] A2 3 c2 w.heap.size wq rfl (by decide) hs
  rw [ex_ats] at this
  exact this))
 have KGT:=Lib.hid (fun wq (hb : Below w.heap.size w wq)=>(show Calls Tryz.prog 28 #[.agg #[.slice A3 4 c3,.string ⟨#[]⟩,.int .i64 0]] wq fun e w'=>e=.returned (.bool true)∧Below wq.heap.size wq w' by
  have:=cl_goodTape [B 0,B 2,B 4,B 1] A3 4 c3 ⟨#[]⟩ 0 wq rfl (by decide) ((h3.below hb).more hb.size)
  rw [ex_good 0 (.inl rfl)] at this
  exact this))
 have KMS:=Lib.hid (fun wq (hb : Below w.heap.size w wq)=>(show Calls Tryz.prog 42 #[.agg #[.string (B 2),.string (B 2),.string (B 107),.string (B 53),.string (B 4),.string (B 16),.string (B 77),.string ⟨#[]⟩,.string (B 4),.string (B 9),.string (B 9),.string (B 6),.string (B 9),.string (B 3),.string (B 10),.string (B 2),.string (B 15)],.agg #[.string ⟨#[105,115,115,117,101,114]⟩,.string (B 77),.string ⟨#[]⟩,.string (B 15),.string (B 4),.slice A 3 c,.string (B 4),.string (B 16)],.slice A2 3 c2] wq fun e w'=>e=.returned (.tuple #[.string (B 64),.int .i64 0])∧Below wq.heap.size wq w' by
  have:=cl_message (B 2) (B 2) (B 107) (B 53) (B 4) (B 16) (B 77) ⟨#[]⟩ (B 4) (B 9) (B 9) (B 6) (B 9) (B 3) (B 10) (B 2) (B 15) ⟨#[105,115,115,117,101,114]⟩ (B 77) ⟨#[]⟩ (B 15) (B 4) (B 4) (B 16) A A2 3 3 c c2 [B 64,B 23,B 1] [B 1,B 3,B 5] wq (by decide +kernel) ex_grp (by decide +kernel) (by decide +kernel) (by decide +kernel) rfl rfl (by decide) (by decide) ((h1.below hb).more hb.size) ((h2.below hb).more hb.size) ex_ats (by decide +kernel) (by decide +kernel) (by decide +kernel)
  rw [ex_msg] at this
  exact this))
 have KEX:=Lib.hid (fun wq (hb : Below w.heap.size w wq)=>(show Calls Tryz.prog 8 #[.agg #[.string (B 2),.string (B 2),.string (B 107),.string (B 53),.string (B 4),.string (B 16),.string (B 77),.string ⟨#[]⟩,.string (B 4),.string (B 9),.string (B 9),.string (B 6),.string (B 9),.string (B 3),.string (B 10),.string (B 2),.string (B 15)],.agg #[.string (B 7),.string (B 11)],.agg #[.slice A3 4 c3,.string ⟨#[]⟩,.int .i64 0]] wq fun e w'=>(∃ g,e=.returned (.tuple #[.string (B 7),.agg #[.slice (some ⟨g,0,none⟩) 4 4,.string ⟨#[]⟩,.int .i64 3],.int .i64 0])∧SLs w' w'.heap.size (some ⟨g,0,none⟩) [B 0,B 2,B 4,B 1]∧wq.heap.size≤g)∧Below wq.heap.size wq w' by
  have:=cl_Exponent 0 (B 2) (B 2) (B 107) (B 53) (B 4) (B 16) (B 77) ⟨#[]⟩ (B 4) (B 9) (B 9) (B 6) (B 9) (B 3) (B 10) (B 2) (B 15) (B 7) (B 11) [B 0,B 2,B 4,B 1] A3 4 c3 ⟨#[]⟩ 0 wq rfl (by decide) ((h3.below hb).more hb.size) (by decide) (hT.below hb) (fun A' c' m zi wq2 h1' h2' h3' h4'=>coins_BelowZ [B 0,B 2,B 4,B 1] A' 4 c' ⟨#[]⟩ zi m wq2 rfl (by decide) h3' h1' h2' (by decide) (by rw [ByteArray.toList_eq];rfl)) (by decide +kernel) (by decide +kernel) (fun _=>by refine ⟨⟨?_,?_⟩,?_,?_⟩<;>decide +kernel) (fun wq2 h2=>KCH.out _ (hb.trans (h2.mono hb.size)))
   (fun x wq2 hx2 hxl=>by rw [ex_ord];simp only [num_B];exact natural_DivMod' 15 x wq2 (by decide) hxl (by omega))
  rw [ex_exp] at this
  refine this.mono ?_
  rintro e w' ⟨⟨_,g,he,hsl,hg⟩ | ⟨h,_⟩,hb'⟩
  · exact ⟨⟨g,he,hsl,hg⟩,hb'⟩
  · exact absurd rfl h))
 have KBE:=Lib.hid (fun wq (g : Nat) (hb : Below w.heap.size w wq) (hs : SLs wq wq.heap.size (some ⟨g,0,none⟩) [B 0,B 2,B 4,B 1])=>(show Calls Tryz.prog 30 #[.agg #[.slice (some ⟨g,0,none⟩) 4 4,.string ⟨#[]⟩,.int .i64 3],.string (B 2)] wq fun e w'=>(∃ g,e=.returned (.tuple #[.string (B 1),.agg #[.slice (some ⟨g,0,none⟩) 4 4,.string ⟨#[]⟩,.int .i64 4],.int .i64 0]))∧Below wq.heap.size wq w' by
  have:=coins_BelowZ [B 0,B 2,B 4,B 1] (some ⟨g,0,none⟩) 4 4 ⟨#[]⟩ 3 2 wq rfl (by decide) hs (by decide) (by decide) (by decide) (by rw [ByteArray.toList_eq];rfl)
  rw [ex_bel] at this
  refine this.mono ?_
  rintro e w' ⟨⟨_,g,he,hsl,hg⟩ | ⟨h,_⟩,hb'⟩
  · exact ⟨⟨g,he⟩,hb'⟩
  · exact absurd rfl h))
 have KP : Hid (∀ (wq : World) ga gz,SLs wq wq.heap.size (some ⟨ga,0,none⟩) [B 15,B 4,B 64]→ZLs wq wq.heap.size (some ⟨gz,0,none⟩) [(false,⟨#[1]⟩),(true,B 1),(true,⟨#[1]⟩)]→Calls Tryz.prog 19 #[.agg #[.string (B 77),.string ⟨#[]⟩],.slice (some ⟨ga,0,none⟩) 3 3,.slice (some ⟨gz,0,none⟩) 3 3] wq fun r w'=>r=.returned (.tuple #[.string (B 16),.int .i64 0])∧Below wq.heap.size wq w'):=Lib.hid (fun wq ga gz h1 h2=>by
  rw [show (⟨#[1]⟩ : ByteArray)=B 1 by decide +kernel] at h2
  have:=power_ProductN (B 77) ⟨#[]⟩ [B 15,B 4,B 64] [(false,B 1),(true,B 1),(true,B 1)] (some ⟨ga,0,none⟩) (some ⟨gz,0,none⟩) 3 3 3 wq (by decide +kernel) ex_grp ex_has ex_zok ex_gcd rfl rfl (by omega) (by decide +kernel) h1 h2
  rw [ex_prd] at this
  exact this)
 have KM1:=Lib.hid (fun wq=>(show Calls Tryz.prog 62 #[.string (B 1)] wq fun e w'=>e=.returned (.agg #[.bool true,.string (B 1)])∧Below wq.heap.size wq w' by
  have:=cl_minus (B 1) wq
  rw [show (!(B 1).toList.isEmpty)=true by decide +kernel] at this
  exact this))
 have KM2:=Lib.hid (fun wq=>(show Calls Tryz.prog 62 #[.string ⟨#[1]⟩] wq fun e w'=>e=.returned (.agg #[.bool true,.string ⟨#[1]⟩])∧Below wq.heap.size wq w' by
  have:=cl_minus ⟨#[1]⟩ wq
  rw [show (!(⟨#[1]⟩ : ByteArray).toList.isEmpty)=true by decide +kernel] at this
  exact this))
 have KRT:=Lib.hid (fun wq (hb : Below w.heap.size w wq)=>rsagroup_Root_16 wq (hT.below hb))
 have HS:=Lib.hid (SgB.start w #[.string ⟨#[105,115,115,117,101,114]⟩,.string (B 77),.string ⟨#[]⟩,.string (B 15),.string (B 4),.slice A 3 c,.string (B 4),.string (B 16)] A A2 A3 4 c3 0 h1 h2)
 obtain ⟨W0,hW0⟩ : ∃ W0,((((((w.alloc (.cells #[.string (B 2),.string (B 2),.string (B 107),.string (B 53),.string (B 4),.string (B 16),.string (B 77),.string ⟨#[]⟩,.string (B 4),.string (B 9),.string (B 9),.string (B 6),.string (B 9),.string (B 3),.string (B 10),.string (B 2),.string (B 15)] 30)).alloc (.cells #[.string ⟨#[105,115,115,117,101,114]⟩,.string (B 77),.string ⟨#[]⟩,.string (B 15),.string (B 4),.slice A 3 c,.string (B 4),.string (B 16)] 33)).alloc (.cells #[.string (B 7),.string (B 11)] 35)).alloc (.cells #[.slice A3 4 c3,.string ⟨#[]⟩,.int .i64 0] 39)).alloc (.cells #[.string ⟨#[]⟩,.string ⟨#[]⟩,.string ⟨#[]⟩] 51)).alloc (.cells #[.slice none 0 0,.string ⟨#[]⟩,.int .i64 0] 39))=W0:=⟨_,rfl⟩
 rw [hW0] at HS
 clear h1 h2 h3 hT hT10 KCH KIC
 obtain ⟨g0,g1⟩:=HS.out.gc
 go_enter Tryz.func26, Tryz.ntmps26
 go_upto_region 4 with (first | (go_at_call 61;(with_reducible refine (KFI.out _ HS.out.bel).mono ?_);rintro e w1 ⟨rfl,hb1⟩;have HS1:=Lib.hid (HS.out.next hb1);obtain ⟨t0,t1,t2,f0,f1,f2⟩:=HS1.out.tc;obtain ⟨g0,g1⟩:=HS1.out.gc;have p15:=HS1.out.pc;obtain ⟨k1,k2,k3,k4⟩:=HS1.out.kc;clear hb1) | (with_reducible refine wpList_look ?_;refine wpList_load_row rfl 30 _ rfl _ rfl 30 #[.string (B 2),.string (B 2),.string (B 107),.string (B 53),.string (B 4),.string (B 16),.string (B 77),.string ⟨#[]⟩,.string (B 4),.string (B 9),.string (B 9),.string (B 6),.string (B 9),.string (B 3),.string (B 10),.string (B 2),.string (B 15)] (0,0) _ HS.out.par Tryz.underlying30 rfl (info17'.trans rfl) ?_) | (with_reducible refine wpList_look ?_;refine wpList_load_row rfl 33 _ rfl _ rfl 33 #[.string ⟨#[105,115,115,117,101,114]⟩,.string (B 77),.string ⟨#[]⟩,.string (B 15),.string (B 4),.slice A 3 c,.string (B 4),.string (B 16)] (0,0) _ HS.out.key Tryz.underlying33 rfl (info8'.trans rfl) ?_))
 go_upto_region 6 with (first | (go_at_call 41;(with_reducible refine (KFO.out _ HS1.out.att).mono ?_);rintro e w2 ⟨rfl,rfl⟩) | (go_at_call 28;(with_reducible refine (KGT.out _ HS1.out.bel).mono ?_);rintro e w2 ⟨rfl,hb2⟩;have HS2:=Lib.hid (HS1.out.next hb2);obtain ⟨t0,t1,t2,f0,f1,f2⟩:=HS2.out.tc;obtain ⟨g0,g1⟩:=HS2.out.gc;have p15:=HS2.out.pc;obtain ⟨k1,k2,k3,k4⟩:=HS2.out.kc;clear hb2))
 go_upto_region 9 with (first | (go_at_call 42;(with_reducible refine (KMS.out _ HS2.out.bel).mono ?_);rintro e w3 ⟨rfl,hb3⟩;have HS3:=Lib.hid (HS2.out.next hb3);obtain ⟨t0,t1,t2,f0,f1,f2⟩:=HS3.out.tc;obtain ⟨g0,g1⟩:=HS3.out.gc;have p15:=HS3.out.pc;obtain ⟨k1,k2,k3,k4⟩:=HS3.out.kc;clear hb3) | (with_reducible refine wpList_look ?_;refine wpList_load_row rfl 30 _ rfl _ rfl 30 #[.string (B 2),.string (B 2),.string (B 107),.string (B 53),.string (B 4),.string (B 16),.string (B 77),.string ⟨#[]⟩,.string (B 4),.string (B 9),.string (B 9),.string (B 6),.string (B 9),.string (B 3),.string (B 10),.string (B 2),.string (B 15)] (0,0) _ HS2.out.par Tryz.underlying30 rfl (info17'.trans rfl) ?_) | (with_reducible refine wpList_look ?_;refine wpList_load_row rfl 33 _ rfl _ rfl 33 #[.string ⟨#[105,115,115,117,101,114]⟩,.string (B 77),.string ⟨#[]⟩,.string (B 15),.string (B 4),.slice A 3 c,.string (B 4),.string (B 16)] (0,0) _ HS2.out.key Tryz.underlying33 rfl (info8'.trans rfl) ?_))
 go_upto_region 12 with (first | (go_at_call 8;(with_reducible refine (KEX.out _ HS3.out.bel).mono ?_);rintro e w4 ⟨⟨ge,rfl,hsl,hgl⟩,hb4⟩;have HS4:=Lib.hid (HS3.out.next hb4);have HSL:=Lib.hid hsl;have HGL:=Lib.hid (Nat.lt_of_lt_of_le HS3.out.lt hgl);have HS5:=Lib.hid (HS4.out.put (A':=some ⟨ge,0,none⟩) (n':=4) (c':=4) (z':=3));obtain ⟨t0,t1,t2,f0,f1,f2⟩:=HS4.out.tc;obtain ⟨g0,g1⟩:=HS4.out.gc;have p15:=HS4.out.pc;obtain ⟨k1,k2,k3,k4⟩:=HS4.out.kc;obtain ⟨x0,x1,x2,y0,y1,y2⟩:=HS5.out.tc;have p15b:=HS5.out.pc;clear hb4 hsl hgl) | (with_reducible refine wpList_look ?_;refine wpList_load_row rfl 30 _ rfl _ rfl 30 #[.string (B 2),.string (B 2),.string (B 107),.string (B 53),.string (B 4),.string (B 16),.string (B 77),.string ⟨#[]⟩,.string (B 4),.string (B 9),.string (B 9),.string (B 6),.string (B 9),.string (B 3),.string (B 10),.string (B 2),.string (B 15)] (0,0) _ HS3.out.par Tryz.underlying30 rfl (info17'.trans rfl) ?_))
 go_upto_region 15 with (first | (go_at_call 30;(with_reducible refine (KBE.out _ ge HS5.out.bel ((SLs.farE3 HSL.out (Nat.lt_of_le_of_lt (show w.heap.size+1+1+1≤w.heap.size+1+1+1+1+1 by omega) HGL.out)))).mono ?_);rintro e w5 ⟨⟨gq,rfl⟩,hb5⟩;have HS5b:=Lib.hid (HS5.out.next hb5);have HS6:=Lib.hid (HS5b.out.put (A':=some ⟨gq,0,none⟩) (n':=4) (c':=4) (z':=4));obtain ⟨t0,t1,t2,f0,f1,f2⟩:=HS5b.out.tc;obtain ⟨g0,g1⟩:=HS5b.out.gc;have p15:=HS5b.out.pc;obtain ⟨k1,k2,k3,k4⟩:=HS5b.out.kc;clear hb5))
 clear t0 t1 t2 f0 f1 f2 p15 k1 k2 k3 k4 g0 g1 x0 x1 x2 y0 y1 y2 p15b
 obtain ⟨w6,hw6⟩ : ∃ w6,(((w5.setCell ⟨w.heap.size+1+1+1,0,none⟩ (.slice (some ⟨gq,0,none⟩) 4 4)).setCell ⟨w.heap.size+1+1+1,1,none⟩ (.string ⟨#[]⟩)).setCell ⟨w.heap.size+1+1+1,2,none⟩ (.int .i64 4))=w6:=⟨_,rfl⟩
 rw [hw6] at HS6 ⊢
 clear hw6
 go_cut [18,15] (fun zz er wx=>zz=.string (B 16)∧er=.int .i64 0∧SgB w #[.string ⟨#[105,115,115,117,101,114]⟩,.string (B 77),.string ⟨#[]⟩,.string (B 15),.string (B 4),.slice A 3 c,.string (B 4),.string (B 16)] A A2 (some ⟨gq,0,none⟩) 4 4 4 wx)
 case first =>
  have HQ:=HS6
  obtain ⟨k1,k2,k3,k4⟩:=HQ.out.kc
  go_region_held3 (fun w'=>w'.cell? ⟨w.heap.size+1,1,none⟩=some (.string (B 77))∧w'.cell? ⟨w.heap.size+1,2,none⟩=some (.string ⟨#[]⟩)∧w'.cell? ⟨w.heap.size+1,3,none⟩=some (.string (B 15))∧w'.cell? ⟨w.heap.size+1,4,none⟩=some (.string (B 4))) (first | exact HQ.out.kc | exact ((HQ.out.alloc _).drew).kc | exact (((HQ.out.alloc _).alloc _).drew).kc | exact HQ.out.drew.kc | exact (HQ.out.alloc _).kc | exact (HQ.out.drew.alloc _).kc | exact ((HQ.out.alloc _).alloc _).kc | exact ((HQ.out.drew.alloc _).alloc _).kc) (first | (go_at_call 45;(with_reducible refine (cl_integer _ _).mono ?_);rintro e wi ⟨rfl,hbq⟩;have nq : SgB w #[.string ⟨#[105,115,115,117,101,114]⟩,.string (B 77),.string ⟨#[]⟩,.string (B 15),.string (B 4),.slice A 3 c,.string (B 4),.string (B 16)] A A2 (some ⟨gq,0,none⟩) 4 4 4 wi:=(by (first | exact HQ.out.next hbq | exact ((HQ.out.alloc _).drew).next hbq | exact (((HQ.out.alloc _).alloc _).drew).next hbq | exact HQ.out.drew.next hbq | exact (HQ.out.alloc _).next hbq | exact (HQ.out.drew.alloc _).next hbq | exact ((HQ.out.alloc _).alloc _).next hbq | exact ((HQ.out.drew.alloc _).alloc _).next hbq));(first | (have RA:=Lib.hid ((hbq.block _ (by simp)).trans (heap_alloc_new _ (.cells #[.string (B 15),.string (B 4),.string (B 64)] 22)))) | (have RA:=Lib.hid ((hbq.block _ (Array.getElem?_eq_some_iff.1 RA.out).1).trans RA.out)) | skip);have HQ:=Lib.hid nq;clear nq hbq) | (go_at_call 62;(with_reducible refine (KM1.out _).mono ?_);rintro e wi ⟨rfl,hbq⟩;have nq : SgB w #[.string ⟨#[105,115,115,117,101,114]⟩,.string (B 77),.string ⟨#[]⟩,.string (B 15),.string (B 4),.slice A 3 c,.string (B 4),.string (B 16)] A A2 (some ⟨gq,0,none⟩) 4 4 4 wi:=(by (first | exact HQ.out.next hbq | exact ((HQ.out.alloc _).drew).next hbq | exact (((HQ.out.alloc _).alloc _).drew).next hbq | exact HQ.out.drew.next hbq | exact (HQ.out.alloc _).next hbq | exact (HQ.out.drew.alloc _).next hbq | exact ((HQ.out.alloc _).alloc _).next hbq | exact ((HQ.out.drew.alloc _).alloc _).next hbq));(first | (have RA:=Lib.hid ((hbq.block _ (by simp)).trans (heap_alloc_new _ (.cells #[.string (B 15),.string (B 4),.string (B 64)] 22)))) | (have RA:=Lib.hid ((hbq.block _ (Array.getElem?_eq_some_iff.1 RA.out).1).trans RA.out)) | skip);have HQ:=Lib.hid nq;clear nq hbq) | (go_at_call 62;(with_reducible refine (KM2.out _).mono ?_);rintro e wi ⟨rfl,hbq⟩;have nq : SgB w #[.string ⟨#[105,115,115,117,101,114]⟩,.string (B 77),.string ⟨#[]⟩,.string (B 15),.string (B 4),.slice A 3 c,.string (B 4),.string (B 16)] A A2 (some ⟨gq,0,none⟩) 4 4 4 wi:=(by (first | exact HQ.out.next hbq | exact ((HQ.out.alloc _).drew).next hbq | exact (((HQ.out.alloc _).alloc _).drew).next hbq | exact HQ.out.drew.next hbq | exact (HQ.out.alloc _).next hbq | exact (HQ.out.drew.alloc _).next hbq | exact ((HQ.out.alloc _).alloc _).next hbq | exact ((HQ.out.drew.alloc _).alloc _).next hbq));(first | (have RA:=Lib.hid ((hbq.block _ (by simp)).trans (heap_alloc_new _ (.cells #[.string (B 15),.string (B 4),.string (B 64)] 22)))) | (have RA:=Lib.hid ((hbq.block _ (Array.getElem?_eq_some_iff.1 RA.out).1).trans RA.out)) | skip);have HQ:=Lib.hid nq;clear nq hbq) | (go_at_call 19;(refine (KP.out _ _ _ (sls_row3 (by (first | exact heap_alloc_new _ _ | exact heap_alloc2_new _ _ _ | exact heap_alloc2_old _ _ _ | exact (heap_alloc_old _ _ (Array.getElem?_eq_some_iff.1 RA.out).1).trans RA.out))) (zls_row3 (by (first | exact heap_alloc_new _ _ | exact heap_alloc2_new _ _ _ | exact heap_alloc2_old _ _ _ | exact (heap_alloc_old _ _ (Array.getElem?_eq_some_iff.1 RA.out).1).trans RA.out)))).mono ?_);rintro e wp ⟨rfl,hbq⟩;have nq : SgB w #[.string ⟨#[105,115,115,117,101,114]⟩,.string (B 77),.string ⟨#[]⟩,.string (B 15),.string (B 4),.slice A 3 c,.string (B 4),.string (B 16)] A A2 (some ⟨gq,0,none⟩) 4 4 4 wp:=(by (first | exact HQ.out.next hbq | exact ((HQ.out.alloc _).drew).next hbq | exact (((HQ.out.alloc _).alloc _).drew).next hbq | exact HQ.out.drew.next hbq | exact (HQ.out.alloc _).next hbq | exact (HQ.out.drew.alloc _).next hbq | exact ((HQ.out.alloc _).alloc _).next hbq | exact ((HQ.out.drew.alloc _).alloc _).next hbq));have HQ9:=Lib.hid nq;have HQ:=HQ9;clear nq hbq))
  all_goals
   go_wp2_with fail
   go_meet
   exact ⟨rfl,rfl,HQ9.out⟩
 case rest =>
  obtain ⟨rfl,rfl,hcut⟩:=hcut
  have HS7:=Lib.hid hcut
  obtain ⟨k1,k2,k3,k4⟩:=hcut.kc
  obtain ⟨g0,g1⟩:=hcut.gc
  clear hcut
  go_upto_region 21 with (first | (go_at_call 63;(with_reducible refine (KRT.out _ HS7.out.bel).mono ?_);rintro e w8 ⟨rfl,hb8⟩;have HS8:=Lib.hid (HS7.out.next hb8);clear hb8))
  obtain ⟨t0,t1,t2,f0,f1,f2⟩:=HS8.out.tc
  have n2 : ¬ w.heap.size+1+1=w.heap.size:=by omega
  have n3 : ¬ w.heap.size+1+1+1+1+1=w.heap.size+1+1+1:=by omega
  have n4 : ¬ w.heap.size+1+1+1+1=w.heap.size+1+1+1:=by omega
  obtain ⟨⟨r0,r1,r2⟩,⟨e0,e1,e2⟩,⟨r3,r4,r5⟩,e3,e4,e5⟩:=HS8.out.rc
  go_region_held3 (fun w'=>w'.cell? ⟨w.heap.size+1+1+1,0,none⟩=some (.slice (some ⟨gq,0,none⟩) 4 4)∧w'.cell? ⟨w.heap.size+1+1+1,1,none⟩=some (.string ⟨#[]⟩)∧w'.cell? ⟨w.heap.size+1+1+1,2,none⟩=some (.int .i64 4)) (first | go_keep) (first | fail)
  all_goals
   go_wp2_with fail
   exact bodyPost_ret (v:=.tuple #[.agg #[.string (B 37),.string (B 7),.string (B 1)],.agg #[.slice (some ⟨gq,0,none⟩) 4 4,.string ⟨#[]⟩,.int .i64 4],.int .i64 0]) (by simp [results,Tryz.results26,go_sem,r0,r1,r2,r3,r4,r5]) rfl ⟨⟨gq,rfl⟩,SgB.end6 HS8.out⟩
end Go.Proofs.YtgkggkpighpdiaaGreatDoor
