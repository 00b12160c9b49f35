/- Encoding: ToInt for every valid list, integer.Small for every integer. Printed by genApd.py. The reference: ToInt for every valid list, Small for every integer. Printed by genArd.py. Wallet: the reader's next, text, nat, number, end at whatever items: what they read, or they panic. The reference's reader: next, number, wrong. Wallet: what the inner changes hand back, as records, for every argument. The reference's reader: number, asked, used. Printed by genArf.py. -/
import Derived.Test.YtjhlddlocpkhkaaGreatWhJ38
import Derived.Test.YtjhlddlocpkhkaaGreatWhJ16
import Derived.Test.YtjhlddlocpkhkaaGreatWhJ08
import Derived.Test.YtjhlddlocpkhkaaGreatWhJ04
import Derived.WalkSmall
import Derived.Test.YtjhlddlocpkhkaaGreatWhJ19
import Derived.Test.YtjhlddlocpkhkaaGreatWhJ25
import Derived.Test.YtjhlddlocpkhkaaGreatWhYt
import Derived.Test.YtjhlddlocpkhkaaGreatWhVaj
namespace Go.Proofs.YtjhlddlocpkhkaaGreat
open Go.RowKit
set_option maxRecDepth 100000
set_option linter.unusedVariables false
set_option maxHeartbeats 8000000
def TiGot (w : World) (neg : Bool) (a : ByteArray) (ok : Bool) (o : Ending) (w' : World) : Prop:=o=.returned (.tuple #[.agg #[.bool neg,.string a],.bool ok])∧Below w.heap.size w w'
def toB (p : Option (Bool × ByteArray)) : Bool:=match p with | none=>false | some x=>x.1
def toA (p : Option (Bool × ByteArray)) : ByteArray:=match p with | none=>⟨#[]⟩ | some x=>x.2
theorem two_cellsG {w : World} {S : Nat→Prop} {A : Option Addr} {k0 k1 : Int} {x y t0 t1 : ByteArray} {l0 l1 : Its} (h : SlI w S A (.cons k0 x t0 l0 (.cons k1 y t1 l1 .nil))) :
  ∃ g off,A=some ⟨g,off,none⟩∧S g∧w.cell? ⟨g,off,none⟩=some (.int .i64 k0)∧w.cell? ⟨g,off+1,none⟩=some (.string x)∧w.cell? ⟨g,off+4,none⟩=some (.int .i64 k1)∧w.cell? ⟨g,off+5,none⟩=some (.string y):=by
 obtain ⟨g,off,A',c',e,hg,a0,a1,_⟩:=h.at_ (i:=0) (y:=(k0,x,t0,l0)) rfl
 obtain ⟨g',off',A2,c2,e',hg',b0,b1,_⟩:=h.at_ (i:=1) (y:=(k1,y,t1,l1)) rfl
 rw [e] at e'
 injection e' with e'
 injection e' with e1 e2
 subst e1 e2
 exact ⟨g,off,e,hg,by simpa using a0,by simpa using a1,by simpa using b0,by simpa [Nat.add_assoc] using b1⟩
theorem isEmpty_no {s : ByteArray} (h : s.size≠0) : s.toList.isEmpty=false:=by
 rw [ByteArray.toList_eq]
 obtain ⟨⟨l⟩⟩:=s
 cases l with
 | nil=>exact absurd rfl h
 | cons b l=>rfl
structure TiB (w : World) (n : Nat) (A : Option Addr) (c : Nat) (wx : World) : Prop where
 it : wx.heap[w.heap.size]?=some (.cells #[.int .i64 2,.string ⟨#[]⟩,.string ⟨#[]⟩,.slice A n c] 63 (0,0))
 res : wx.heap[w.heap.size+1]?=some (.cells #[.bool false,.string ⟨#[]⟩] 129 (0,0))
 bel : Below w.heap.size w wx
 size : w.heap.size+2≤wx.heap.size
theorem TiB.start {w : World} {n : Nat} {A : Option Addr} {c : Nat} : TiB w n A c ((w.alloc (.cells #[.int .i64 2,.string ⟨#[]⟩,.string ⟨#[]⟩,.slice A n c] 63)).alloc (.cells #[.bool false,.string ⟨#[]⟩] 129)) :=
 ⟨(two_boxes w _ _).1,(two_boxes w _ _).2,((Below.refl _ _).alloc (Nat.le_refl _) _).alloc (by simp) _,by simp⟩
theorem TiB.next {w wx w' : World} {n : Nat} {A : Option Addr} {c : Nat} (h : TiB w n A c wx) (hb : Below wx.heap.size wx w') : TiB w n A c w' :=
 have hz:=h.size
 ⟨(hb.block _ (by omega)).trans h.it,(hb.block _ (by omega)).trans h.res,below2 h.bel hb,Nat.le_trans h.size hb.size⟩
theorem TiB.drewN {w wx : World} {n : Nat} {A : Option Addr} {c q : Nat} (h : TiB w n A c wx) : TiB w n A c (wx.drewN q):=⟨h.it,h.res,below_drewN h.bel _,h.size⟩
theorem ti_len (l : Its) (h2 : Its.len l≠2) (A : Option Addr) (n c : Nat) (S : Nat→Prop) (w : World) (hn : Its.len l=n) (hz : Its.size l≤100000) (hok : okI l=true) (hsl : SlI w S A l) (hS : ∀ g,S g→g < w.heap.size) :
  Calls Tryz.prog 99 #[.agg #[.int .i64 2,.string ⟨#[]⟩,.string ⟨#[]⟩,.slice A n c]] w (TiGot w false ⟨#[]⟩ false):=by
 have hv:=fun W (hb : Below w.heap.size w W)=>enc_valid (Its.size l) (2,⟨#[]⟩,⟨#[]⟩,l) A c S W (Nat.le_refl _) hz (hsl.below hb hS) (fun g hg=>Nat.lt_of_lt_of_le (hS g hg) hb.size)
 have hok1 : okOne (2,⟨#[]⟩,⟨#[]⟩,l)=true:=by
  unfold okOne Its.one
  unfold okI
  rw [hok]
  rfl
 rw [hok1] at hv
 unfold valI at hv
 dsimp only at hv
 rw [hn] at hv
 have HV:=Lib.hid hv
 have HT:=Lib.hid (TiB.start (w:=w) (n:=n) (A:=A) (c:=c))
 have i2 : ((n : Int) != 2)=true:=by rw [hn] at h2;simp;omega
 clear hsl hS hv hok hok1 hz hn
 go_enter Tryz.func99, Tryz.ntmps99
 go_upto_region 2 with (go_at_call 124;(with_reducible refine (HV.out _ HT.out.bel).mono ?_);rintro e w1 ⟨rfl,hb1⟩;have H1:=Lib.hid (HT.out.next hb1);have x0:=cell_of_row _ _ 0 _ _ _ H1.out.it;have x3:=cell_of_row _ _ 3 _ _ _ H1.out.it;have r0:=cell_of_row _ _ 0 _ _ _ H1.out.res;have r1:=cell_of_row _ _ 1 _ _ _ H1.out.res;have f0:=frozen_of_row _ _ 0 _ _ H1.out.res;have f1:=frozen_of_row _ _ 1 _ _ H1.out.res;clear hb1)
 go_wp2_with fail
 refine bodyPost_ret (v:=.tuple #[.agg #[.bool false,.string ⟨#[]⟩],.bool false]) (by simp [results,Tryz.results99,go_sem,r0,r1]) rfl ?_
 exact ⟨rfl,(H1.out.bel.setCell (p:=⟨w.heap.size+1,0,none⟩) (Nat.le_succ _) _).setCell (p:=⟨w.heap.size+1,1,none⟩) (Nat.le_succ _) _⟩
theorem ti_k0 (k0 k1 : Int) (x y t0 t1 : ByteArray) (l0 l1 : Its) (h2 : k0≠0) (A : Option Addr) (n c : Nat) (S : Nat→Prop) (w : World) (hn : Its.len (.cons k0 x t0 l0 (.cons k1 y t1 l1 .nil))=n) (hz : Its.size (.cons k0 x t0 l0 (.cons k1 y t1 l1 .nil))≤100000) (hok : okI (.cons k0 x t0 l0 (.cons k1 y t1 l1 .nil))=true) (hsl : SlI w S A (.cons k0 x t0 l0 (.cons k1 y t1 l1 .nil))) (hS : ∀ g,S g→g < w.heap.size) :
  Calls Tryz.prog 99 #[.agg #[.int .i64 2,.string ⟨#[]⟩,.string ⟨#[]⟩,.slice A n c]] w (TiGot w false ⟨#[]⟩ false):=by
 have hv:=fun W (hb : Below w.heap.size w W)=>enc_valid (Its.size (.cons k0 x t0 l0 (.cons k1 y t1 l1 .nil))) (2,⟨#[]⟩,⟨#[]⟩,(.cons k0 x t0 l0 (.cons k1 y t1 l1 .nil))) A c S W (Nat.le_refl _) hz (hsl.below hb hS) (fun g hg=>Nat.lt_of_lt_of_le (hS g hg) hb.size)
 have hok1 : okOne (2,⟨#[]⟩,⟨#[]⟩,(.cons k0 x t0 l0 (.cons k1 y t1 l1 .nil)))=true:=by
  unfold okOne Its.one
  unfold okI
  rw [hok]
  rfl
 rw [hok1] at hv
 unfold valI at hv
 dsimp only at hv
 rw [hn] at hv
 have HV:=Lib.hid hv
 have HT:=Lib.hid (TiB.start (w:=w) (n:=n) (A:=A) (c:=c))
 have HSL:=Lib.hid (fun W (hb : Below w.heap.size w W)=>hsl.below hb hS)
 obtain ⟨g,off,hA,hg,-⟩:=two_cellsG hsl
 subst hA
 obtain rfl : n=2:=hn.symm
 have i2 : (k0 != 0)=true:=by simp [h2]
 have HI:=Lib.hid h2
 clear h2
 clear hsl hS hv hok hok1 hz hn
 go_enter Tryz.func99, Tryz.ntmps99
 go_upto_region 2 with (go_at_call 124;(with_reducible refine (HV.out _ HT.out.bel).mono ?_);rintro e w1 ⟨rfl,hb1⟩;have H1:=Lib.hid (HT.out.next hb1);obtain ⟨g',off',hA',hg',y0,y1,y2,y3⟩:=two_cellsG (HSL.out w1 H1.out.bel);injection hA' with hA';injection hA' with hA1 hA2;subst hA1 hA2;have x0:=cell_of_row _ _ 0 _ _ _ H1.out.it;have x3:=cell_of_row _ _ 3 _ _ _ H1.out.it;have r0:=cell_of_row _ _ 0 _ _ _ H1.out.res;have r1:=cell_of_row _ _ 1 _ _ _ H1.out.res;have f0:=frozen_of_row _ _ 0 _ _ H1.out.res;have f1:=frozen_of_row _ _ 1 _ _ H1.out.res;clear hb1)
 go_wp2_with fail
 refine bodyPost_ret (v:=.tuple #[.agg #[.bool false,.string ⟨#[]⟩],.bool false]) (by simp [results,Tryz.results99,go_sem,r0,r1]) rfl ?_
 exact ⟨rfl,(H1.out.bel.setCell (p:=⟨w.heap.size+1,0,none⟩) (Nat.le_succ _) _).setCell (p:=⟨w.heap.size+1,1,none⟩) (Nat.le_succ _) _⟩
theorem ti_k1 (k1 : Int) (x y t0 t1 : ByteArray) (l0 l1 : Its) (h2 : k1≠0) (A : Option Addr) (n c : Nat) (S : Nat→Prop) (w : World) (hn : Its.len (.cons 0 x t0 l0 (.cons k1 y t1 l1 .nil))=n) (hz : Its.size (.cons 0 x t0 l0 (.cons k1 y t1 l1 .nil))≤100000) (hok : okI (.cons 0 x t0 l0 (.cons k1 y t1 l1 .nil))=true) (hsl : SlI w S A (.cons 0 x t0 l0 (.cons k1 y t1 l1 .nil))) (hS : ∀ g,S g→g < w.heap.size) :
  Calls Tryz.prog 99 #[.agg #[.int .i64 2,.string ⟨#[]⟩,.string ⟨#[]⟩,.slice A n c]] w (TiGot w false ⟨#[]⟩ false):=by
 have hv:=fun W (hb : Below w.heap.size w W)=>enc_valid (Its.size (.cons 0 x t0 l0 (.cons k1 y t1 l1 .nil))) (2,⟨#[]⟩,⟨#[]⟩,(.cons 0 x t0 l0 (.cons k1 y t1 l1 .nil))) A c S W (Nat.le_refl _) hz (hsl.below hb hS) (fun g hg=>Nat.lt_of_lt_of_le (hS g hg) hb.size)
 have hok1 : okOne (2,⟨#[]⟩,⟨#[]⟩,(.cons 0 x t0 l0 (.cons k1 y t1 l1 .nil)))=true:=by
  unfold okOne Its.one
  unfold okI
  rw [hok]
  rfl
 rw [hok1] at hv
 unfold valI at hv
 dsimp only at hv
 rw [hn] at hv
 have HV:=Lib.hid hv
 have HT:=Lib.hid (TiB.start (w:=w) (n:=n) (A:=A) (c:=c))
 have HSL:=Lib.hid (fun W (hb : Below w.heap.size w W)=>hsl.below hb hS)
 obtain ⟨g,off,hA,hg,-⟩:=two_cellsG hsl
 subst hA
 obtain rfl : n=2:=hn.symm
 have i2 : (k1 != 0)=true:=by simp [h2]
 have HI:=Lib.hid h2
 clear h2
 clear hsl hS hv hok hok1 hz hn
 go_enter Tryz.func99, Tryz.ntmps99
 go_upto_region 2 with (go_at_call 124;(with_reducible refine (HV.out _ HT.out.bel).mono ?_);rintro e w1 ⟨rfl,hb1⟩;have H1:=Lib.hid (HT.out.next hb1);obtain ⟨g',off',hA',hg',y0,y1,y2,y3⟩:=two_cellsG (HSL.out w1 H1.out.bel);injection hA' with hA';injection hA' with hA1 hA2;subst hA1 hA2;have x0:=cell_of_row _ _ 0 _ _ _ H1.out.it;have x3:=cell_of_row _ _ 3 _ _ _ H1.out.it;have r0:=cell_of_row _ _ 0 _ _ _ H1.out.res;have r1:=cell_of_row _ _ 1 _ _ _ H1.out.res;have f0:=frozen_of_row _ _ 0 _ _ H1.out.res;have f1:=frozen_of_row _ _ 1 _ _ H1.out.res;clear hb1)
 go_wp2_with fail
 refine bodyPost_ret (v:=.tuple #[.agg #[.bool false,.string ⟨#[]⟩],.bool false]) (by simp [results,Tryz.results99,go_sem,r0,r1]) rfl ?_
 exact ⟨rfl,(H1.out.bel.setCell (p:=⟨w.heap.size+1,0,none⟩) (Nat.le_succ _) _).setCell (p:=⟨w.heap.size+1,1,none⟩) (Nat.le_succ _) _⟩
theorem ti_pos (x y t0 t1 : ByteArray) (l0 l1 : Its) (h2 : x.size=0) (A : Option Addr) (n c : Nat) (S : Nat→Prop) (w : World) (hn : Its.len (.cons 0 x t0 l0 (.cons 0 y t1 l1 .nil))=n) (hz : Its.size (.cons 0 x t0 l0 (.cons 0 y t1 l1 .nil))≤100000) (hok : okI (.cons 0 x t0 l0 (.cons 0 y t1 l1 .nil))=true) (hsl : SlI w S A (.cons 0 x t0 l0 (.cons 0 y t1 l1 .nil))) (hS : ∀ g,S g→g < w.heap.size) :
  Calls Tryz.prog 99 #[.agg #[.int .i64 2,.string ⟨#[]⟩,.string ⟨#[]⟩,.slice A n c]] w (TiGot w false y true):=by
 have hv:=fun W (hb : Below w.heap.size w W)=>enc_valid (Its.size (.cons 0 x t0 l0 (.cons 0 y t1 l1 .nil))) (2,⟨#[]⟩,⟨#[]⟩,(.cons 0 x t0 l0 (.cons 0 y t1 l1 .nil))) A c S W (Nat.le_refl _) hz (hsl.below hb hS) (fun g hg=>Nat.lt_of_lt_of_le (hS g hg) hb.size)
 have hok1 : okOne (2,⟨#[]⟩,⟨#[]⟩,(.cons 0 x t0 l0 (.cons 0 y t1 l1 .nil)))=true:=by
  unfold okOne Its.one
  unfold okI
  rw [hok]
  rfl
 rw [hok1] at hv
 unfold valI at hv
 dsimp only at hv
 rw [hn] at hv
 have HV:=Lib.hid hv
 have HT:=Lib.hid (TiB.start (w:=w) (n:=n) (A:=A) (c:=c))
 have HSL:=Lib.hid (fun W (hb : Below w.heap.size w W)=>hsl.below hb hS)
 obtain ⟨g,off,hA,hg,-⟩:=two_cellsG hsl
 subst hA
 obtain rfl : n=2:=hn.symm
 obtain rfl : x=⟨#[]⟩:=sz0 h2
 clear hsl hS hv hok hok1 hz hn
 go_enter Tryz.func99, Tryz.ntmps99
 go_upto_region 3 with (go_at_call 124;(with_reducible refine (HV.out _ HT.out.bel).mono ?_);rintro e w1 ⟨rfl,hb1⟩;have H1:=Lib.hid (HT.out.next hb1);obtain ⟨g',off',hA',hg',y0,y1,y2,y3⟩:=two_cellsG (HSL.out w1 H1.out.bel);injection hA' with hA';injection hA' with hA1 hA2;subst hA1 hA2;have x0:=cell_of_row _ _ 0 _ _ _ H1.out.it;have x3:=cell_of_row _ _ 3 _ _ _ H1.out.it;have r0:=cell_of_row _ _ 0 _ _ _ H1.out.res;have r1:=cell_of_row _ _ 1 _ _ _ H1.out.res;have f0:=frozen_of_row _ _ 0 _ _ H1.out.res;have f1:=frozen_of_row _ _ 1 _ _ H1.out.res;clear hb1)
 go_quiet ((fail))
 clear x0 x3 y0 y1 y2 y3 r0 r1 f0 f1
 have H2:=Lib.hid (H1.out.drewN (q:=nq))
 obtain ⟨w2,hw2⟩ : ∃ w2,w1.drewN nq=w2:=⟨_,rfl⟩
 rw [hw2] at H2 ⊢
 clear hw2
 have r0:=cell_of_row _ _ 0 _ _ _ H2.out.res
 have r1:=cell_of_row _ _ 1 _ _ _ H2.out.res
 have f0:=frozen_of_row _ _ 0 _ _ H2.out.res
 have f1:=frozen_of_row _ _ 1 _ _ H2.out.res
 go_wp2_with fail
 refine bodyPost_ret (v:=.tuple #[.agg #[.bool false,.string y],.bool true]) (by simp [results,Tryz.results99,go_sem,r0,r1]) rfl ?_
 exact ⟨rfl,(H2.out.bel.setCell (p:=⟨w.heap.size+1,0,none⟩) (Nat.le_succ _) _).setCell (p:=⟨w.heap.size+1,1,none⟩) (Nat.le_succ _) _⟩
theorem ti_neg (x y t0 t1 : ByteArray) (l0 l1 : Its) (h2 : x=B 1) (h3 : y.size≠0) (A : Option Addr) (n c : Nat) (S : Nat→Prop) (w : World) (hn : Its.len (.cons 0 x t0 l0 (.cons 0 y t1 l1 .nil))=n) (hz : Its.size (.cons 0 x t0 l0 (.cons 0 y t1 l1 .nil))≤100000) (hok : okI (.cons 0 x t0 l0 (.cons 0 y t1 l1 .nil))=true) (hsl : SlI w S A (.cons 0 x t0 l0 (.cons 0 y t1 l1 .nil))) (hS : ∀ g,S g→g < w.heap.size) :
  Calls Tryz.prog 99 #[.agg #[.int .i64 2,.string ⟨#[]⟩,.string ⟨#[]⟩,.slice A n c]] w (TiGot w true y true):=by
 have hv:=fun W (hb : Below w.heap.size w W)=>enc_valid (Its.size (.cons 0 x t0 l0 (.cons 0 y t1 l1 .nil))) (2,⟨#[]⟩,⟨#[]⟩,(.cons 0 x t0 l0 (.cons 0 y t1 l1 .nil))) A c S W (Nat.le_refl _) hz (hsl.below hb hS) (fun g hg=>Nat.lt_of_lt_of_le (hS g hg) hb.size)
 have hok1 : okOne (2,⟨#[]⟩,⟨#[]⟩,(.cons 0 x t0 l0 (.cons 0 y t1 l1 .nil)))=true:=by
  unfold okOne Its.one
  unfold okI
  rw [hok]
  rfl
 rw [hok1] at hv
 unfold valI at hv
 dsimp only at hv
 rw [hn] at hv
 have HV:=Lib.hid hv
 have HT:=Lib.hid (TiB.start (w:=w) (n:=n) (A:=A) (c:=c))
 have HSL:=Lib.hid (fun W (hb : Below w.heap.size w W)=>hsl.below hb hS)
 obtain ⟨g,off,hA,hg,-⟩:=two_cellsG hsl
 subst hA
 obtain rfl : n=2:=hn.symm
 have HOF:=Lib.hid (fun W=>natural_Of' 1 1 W rfl (by decide))
 subst h2
 have b1:=B_isEmpty_false (n:=1) (by decide)
 have b2 : y.toList.isEmpty=false:=isEmpty_no h3
 obtain ⟨one,hone⟩ : ∃ one,B 1=one:=⟨_,rfl⟩
 rw [hone] at HOF HSL b1
 have b4 : (one.toList==one.toList)=true:=by simp
 clear hsl hS hv hok hok1 hz hn
 go_enter Tryz.func99, Tryz.ntmps99
 go_upto_region 3 with (go_at_call 124;(with_reducible refine (HV.out _ HT.out.bel).mono ?_);rintro e w1 ⟨rfl,hb1⟩;have H1:=Lib.hid (HT.out.next hb1);obtain ⟨g',off',hA',hg',y0,y1,y2,y3⟩:=two_cellsG (HSL.out w1 H1.out.bel);injection hA' with hA';injection hA' with hA1 hA2;subst hA1 hA2;have x0:=cell_of_row _ _ 0 _ _ _ H1.out.it;have x3:=cell_of_row _ _ 3 _ _ _ H1.out.it;have r0:=cell_of_row _ _ 0 _ _ _ H1.out.res;have r1:=cell_of_row _ _ 1 _ _ _ H1.out.res;have f0:=frozen_of_row _ _ 0 _ _ H1.out.res;have f1:=frozen_of_row _ _ 1 _ _ H1.out.res;clear hb1)
 go_quiet ((fail))
 clear x0 x3 y0 y1 y2 y3 r0 r1 f0 f1
 have H2:=Lib.hid (H1.out.drewN (q:=nq))
 obtain ⟨w2,hw2⟩ : ∃ w2,w1.drewN nq=w2:=⟨_,rfl⟩
 rw [hw2] at H2 ⊢
 clear hw2
 have r0:=cell_of_row _ _ 0 _ _ _ H2.out.res
 have r1:=cell_of_row _ _ 1 _ _ _ H2.out.res
 have f0:=frozen_of_row _ _ 0 _ _ H2.out.res
 have f1:=frozen_of_row _ _ 1 _ _ H2.out.res
 go_wp2_with (go_at_call 125;(with_reducible refine (HOF.out _).mono ?_);rintro e w3 ⟨rfl,hb3⟩;have H3:=Lib.hid (H2.out.next hb3);have z0:=cell_of_row _ _ 0 _ _ _ H3.out.res;have z1:=cell_of_row _ _ 1 _ _ _ H3.out.res;have h0:=frozen_of_row _ _ 0 _ _ H3.out.res;have h1:=frozen_of_row _ _ 1 _ _ H3.out.res;clear hb3)
 refine bodyPost_ret (v:=.tuple #[.agg #[.bool true,.string y],.bool true]) (by simp [results,Tryz.results99,go_sem,z0,z1]) rfl ?_
 exact ⟨rfl,(H3.out.bel.setCell (p:=⟨w.heap.size+1,0,none⟩) (Nat.le_succ _) _).setCell (p:=⟨w.heap.size+1,1,none⟩) (Nat.le_succ _) _⟩
theorem ti_zero (x y t0 t1 : ByteArray) (l0 l1 : Its) (h2 : x=B 1) (h3 : y.size=0) (A : Option Addr) (n c : Nat) (S : Nat→Prop) (w : World) (hn : Its.len (.cons 0 x t0 l0 (.cons 0 y t1 l1 .nil))=n) (hz : Its.size (.cons 0 x t0 l0 (.cons 0 y t1 l1 .nil))≤100000) (hok : okI (.cons 0 x t0 l0 (.cons 0 y t1 l1 .nil))=true) (hsl : SlI w S A (.cons 0 x t0 l0 (.cons 0 y t1 l1 .nil))) (hS : ∀ g,S g→g < w.heap.size) :
  Calls Tryz.prog 99 #[.agg #[.int .i64 2,.string ⟨#[]⟩,.string ⟨#[]⟩,.slice A n c]] w (TiGot w false ⟨#[]⟩ false):=by
 have hv:=fun W (hb : Below w.heap.size w W)=>enc_valid (Its.size (.cons 0 x t0 l0 (.cons 0 y t1 l1 .nil))) (2,⟨#[]⟩,⟨#[]⟩,(.cons 0 x t0 l0 (.cons 0 y t1 l1 .nil))) A c S W (Nat.le_refl _) hz (hsl.below hb hS) (fun g hg=>Nat.lt_of_lt_of_le (hS g hg) hb.size)
 have hok1 : okOne (2,⟨#[]⟩,⟨#[]⟩,(.cons 0 x t0 l0 (.cons 0 y t1 l1 .nil)))=true:=by
  unfold okOne Its.one
  unfold okI
  rw [hok]
  rfl
 rw [hok1] at hv
 unfold valI at hv
 dsimp only at hv
 rw [hn] at hv
 have HV:=Lib.hid hv
 have HT:=Lib.hid (TiB.start (w:=w) (n:=n) (A:=A) (c:=c))
 have HSL:=Lib.hid (fun W (hb : Below w.heap.size w W)=>hsl.below hb hS)
 obtain ⟨g,off,hA,hg,-⟩:=two_cellsG hsl
 subst hA
 obtain rfl : n=2:=hn.symm
 have HOF:=Lib.hid (fun W=>natural_Of' 1 1 W rfl (by decide))
 subst h2
 obtain rfl : y=⟨#[]⟩:=sz0 h3
 have b1:=B_isEmpty_false (n:=1) (by decide)
 obtain ⟨one,hone⟩ : ∃ one,B 1=one:=⟨_,rfl⟩
 rw [hone] at HOF HSL b1
 have b4 : (one.toList==one.toList)=true:=by simp
 clear hsl hS hv hok hok1 hz hn
 go_enter Tryz.func99, Tryz.ntmps99
 go_upto_region 3 with (go_at_call 124;(with_reducible refine (HV.out _ HT.out.bel).mono ?_);rintro e w1 ⟨rfl,hb1⟩;have H1:=Lib.hid (HT.out.next hb1);obtain ⟨g',off',hA',hg',y0,y1,y2,y3⟩:=two_cellsG (HSL.out w1 H1.out.bel);injection hA' with hA';injection hA' with hA1 hA2;subst hA1 hA2;have x0:=cell_of_row _ _ 0 _ _ _ H1.out.it;have x3:=cell_of_row _ _ 3 _ _ _ H1.out.it;have r0:=cell_of_row _ _ 0 _ _ _ H1.out.res;have r1:=cell_of_row _ _ 1 _ _ _ H1.out.res;have f0:=frozen_of_row _ _ 0 _ _ H1.out.res;have f1:=frozen_of_row _ _ 1 _ _ H1.out.res;clear hb1)
 go_quiet ((fail))
 clear x0 x3 y0 y1 y2 y3 r0 r1 f0 f1
 have H2:=Lib.hid (H1.out.drewN (q:=nq))
 obtain ⟨w2,hw2⟩ : ∃ w2,w1.drewN nq=w2:=⟨_,rfl⟩
 rw [hw2] at H2 ⊢
 clear hw2
 have r0:=cell_of_row _ _ 0 _ _ _ H2.out.res
 have r1:=cell_of_row _ _ 1 _ _ _ H2.out.res
 have f0:=frozen_of_row _ _ 0 _ _ H2.out.res
 have f1:=frozen_of_row _ _ 1 _ _ H2.out.res
 go_wp2_with (go_at_call 125;(with_reducible refine (HOF.out _).mono ?_);rintro e w3 ⟨rfl,hb3⟩;have H3:=Lib.hid (H2.out.next hb3);have z0:=cell_of_row _ _ 0 _ _ _ H3.out.res;have z1:=cell_of_row _ _ 1 _ _ _ H3.out.res;have h0:=frozen_of_row _ _ 0 _ _ H3.out.res;have h1:=frozen_of_row _ _ 1 _ _ H3.out.res;clear hb3)
 refine bodyPost_ret (v:=.tuple #[.agg #[.bool false,.string ⟨#[]⟩],.bool false]) (by simp [results,Tryz.results99,go_sem,z0,z1]) rfl ?_
 exact ⟨rfl,(H3.out.bel.setCell (p:=⟨w.heap.size+1,0,none⟩) (Nat.le_succ _) _).setCell (p:=⟨w.heap.size+1,1,none⟩) (Nat.le_succ _) _⟩
theorem ti_other (x y t0 t1 : ByteArray) (l0 l1 : Its) (h2 : x≠B 1) (h3 : x.size≠0) (A : Option Addr) (n c : Nat) (S : Nat→Prop) (w : World) (hn : Its.len (.cons 0 x t0 l0 (.cons 0 y t1 l1 .nil))=n) (hz : Its.size (.cons 0 x t0 l0 (.cons 0 y t1 l1 .nil))≤100000) (hok : okI (.cons 0 x t0 l0 (.cons 0 y t1 l1 .nil))=true) (hsl : SlI w S A (.cons 0 x t0 l0 (.cons 0 y t1 l1 .nil))) (hS : ∀ g,S g→g < w.heap.size) :
  Calls Tryz.prog 99 #[.agg #[.int .i64 2,.string ⟨#[]⟩,.string ⟨#[]⟩,.slice A n c]] w (TiGot w false ⟨#[]⟩ false):=by
 have hv:=fun W (hb : Below w.heap.size w W)=>enc_valid (Its.size (.cons 0 x t0 l0 (.cons 0 y t1 l1 .nil))) (2,⟨#[]⟩,⟨#[]⟩,(.cons 0 x t0 l0 (.cons 0 y t1 l1 .nil))) A c S W (Nat.le_refl _) hz (hsl.below hb hS) (fun g hg=>Nat.lt_of_lt_of_le (hS g hg) hb.size)
 have hok1 : okOne (2,⟨#[]⟩,⟨#[]⟩,(.cons 0 x t0 l0 (.cons 0 y t1 l1 .nil)))=true:=by
  unfold okOne Its.one
  unfold okI
  rw [hok]
  rfl
 rw [hok1] at hv
 unfold valI at hv
 dsimp only at hv
 rw [hn] at hv
 have HV:=Lib.hid hv
 have HT:=Lib.hid (TiB.start (w:=w) (n:=n) (A:=A) (c:=c))
 have HSL:=Lib.hid (fun W (hb : Below w.heap.size w W)=>hsl.below hb hS)
 obtain ⟨g,off,hA,hg,-⟩:=two_cellsG hsl
 subst hA
 obtain rfl : n=2:=hn.symm
 have HOF:=Lib.hid (fun W=>natural_Of' 1 1 W rfl (by decide))
 have b1 : x.toList.isEmpty=false:=isEmpty_no h3
 obtain ⟨one,hone⟩ : ∃ one,B 1=one:=⟨_,rfl⟩
 rw [hone] at HOF h2
 have b4 : (x.toList==one.toList)=false:=by cases hb : (x.toList==one.toList) with | false=>rfl | true=>exact absurd ((str_eq _ _).1 hb) h2
 clear hsl hS hv hok hok1 hz hn
 go_enter Tryz.func99, Tryz.ntmps99
 go_upto_region 3 with (go_at_call 124;(with_reducible refine (HV.out _ HT.out.bel).mono ?_);rintro e w1 ⟨rfl,hb1⟩;have H1:=Lib.hid (HT.out.next hb1);obtain ⟨g',off',hA',hg',y0,y1,y2,y3⟩:=two_cellsG (HSL.out w1 H1.out.bel);injection hA' with hA';injection hA' with hA1 hA2;subst hA1 hA2;have x0:=cell_of_row _ _ 0 _ _ _ H1.out.it;have x3:=cell_of_row _ _ 3 _ _ _ H1.out.it;have r0:=cell_of_row _ _ 0 _ _ _ H1.out.res;have r1:=cell_of_row _ _ 1 _ _ _ H1.out.res;have f0:=frozen_of_row _ _ 0 _ _ H1.out.res;have f1:=frozen_of_row _ _ 1 _ _ H1.out.res;clear hb1)
 go_quiet ((fail))
 clear x0 x3 y0 y1 y2 y3 r0 r1 f0 f1
 have H2:=Lib.hid (H1.out.drewN (q:=nq))
 obtain ⟨w2,hw2⟩ : ∃ w2,w1.drewN nq=w2:=⟨_,rfl⟩
 rw [hw2] at H2 ⊢
 clear hw2
 have r0:=cell_of_row _ _ 0 _ _ _ H2.out.res
 have r1:=cell_of_row _ _ 1 _ _ _ H2.out.res
 have f0:=frozen_of_row _ _ 0 _ _ H2.out.res
 have f1:=frozen_of_row _ _ 1 _ _ H2.out.res
 go_wp2_with (go_at_call 125;(with_reducible refine (HOF.out _).mono ?_);rintro e w3 ⟨rfl,hb3⟩;have H3:=Lib.hid (H2.out.next hb3);have z0:=cell_of_row _ _ 0 _ _ _ H3.out.res;have z1:=cell_of_row _ _ 1 _ _ _ H3.out.res;have h0:=frozen_of_row _ _ 0 _ _ H3.out.res;have h1:=frozen_of_row _ _ 1 _ _ H3.out.res;clear hb3)
 refine bodyPost_ret (v:=.tuple #[.agg #[.bool false,.string ⟨#[]⟩],.bool false]) (by simp [results,Tryz.results99,go_sem,z0,z1]) rfl ?_
 exact ⟨rfl,(H3.out.bel.setCell (p:=⟨w.heap.size+1,0,none⟩) (Nat.le_succ _) _).setCell (p:=⟨w.heap.size+1,1,none⟩) (Nat.le_succ _) _⟩
theorem enc_ToIntX (l : Its) (A : Option Addr) (n c : Nat) (S : Nat→Prop) (w : World) (hn : l.len=n) (hz : l.size≤100000) (hok : okI l=true) (hsl : SlI w S A l) (hS : ∀ g,S g→g < w.heap.size) :
  Calls Tryz.prog 99 #[.agg #[.int .i64 2,.string ⟨#[]⟩,.string ⟨#[]⟩,.slice A n c]] w (TiGot w (toB (toI l)) (toA (toI l)) (toI l).isSome):=by
 cases l with
 | nil=>exact ti_len .nil (by simp [Its.len]) A n c S w hn hz hok hsl hS
 | cons k0 x t0 l0 r =>
   cases r with
   | nil=>exact ti_len _ (by simp [Its.len]) A n c S w hn hz hok hsl hS
   | cons k1 y t1 l1 r2 =>
     cases r2 with
     | cons k2 z t2 l2 r3=>exact ti_len _ (by simp [Its.len]) A n c S w hn hz hok hsl hS
     | nil =>
       dsimp only [toI]
       by_cases h0 : k0=0
       · subst h0
         by_cases h1 : k1=0
         · subst h1
           rw [if_pos ⟨rfl,rfl⟩]
           by_cases hx : x.size=0
           · rw [if_pos hx]
             exact ti_pos x y t0 t1 l0 l1 hx A n c S w hn hz hok hsl hS
           · rw [if_neg hx]
             by_cases hb : x=B 1
             · by_cases hy : y.size=0
               · rw [if_neg (fun h=>h.2 hy)]
                 exact ti_zero x y t0 t1 l0 l1 hb hy A n c S w hn hz hok hsl hS
               · rw [if_pos ⟨hb,hy⟩]
                 exact ti_neg x y t0 t1 l0 l1 hb hy A n c S w hn hz hok hsl hS
             · rw [if_neg (fun h=>hb h.1)]
               exact ti_other x y t0 t1 l0 l1 hb hx A n c S w hn hz hok hsl hS
         · rw [if_neg (fun h=>h1 h.2)]
           exact ti_k1 k1 x y t0 t1 l0 l1 h1 A n c S w hn hz hok hsl hS
       · rw [if_neg (fun h=>h0 h.1)]
         exact ti_k0 k0 k1 x y t0 t1 l0 l1 h0 A n c S w hn hz hok hsl hS
theorem natSmall_yes {a : ByteArray} (hv : valid a=true) (h8 : a.size≤8) : natSmall a=(num a,true):=by unfold natSmall;rw [hv];simp [h8]
theorem natSmall_no {a : ByteArray} (h8 : ¬ a.size≤8) : natSmall a=(0,false):=by unfold natSmall;simp [h8]
theorem int_SmallX (neg : Bool) (a : ByteArray) (hv : valid a=true) (hne : neg=true→a.size≠0) (w : World) :
  Calls Tryz.prog 100 #[.agg #[.bool neg,.string a]] w fun e w'=>e=.returned (.tuple #[.int .i64 ((smI neg a).getD 0),.bool (smI neg a).isSome])∧Below w.heap.size w w':=by
 have HSM:=Lib.hid (fun W=>natural_Small a W)
 have HVA:=Lib.hid (fun W=>integer_Valid neg a W)
 have hva : (valid a&&!(neg&&a.toList.isEmpty))=true:=by
  rw [hv]
  cases neg with
  | false=>rfl
  | true=>rw [isEmpty_no (hne rfl)];rfl
 rw [hva] at HVA
 have HB0:=Lib.hid (Bx1.start (w:=w) (cs:=#[.bool neg,.string a]) (T:=129))
 by_cases h8 : a.size≤8
 · rw [natSmall_yes hv h8] at HSM
   have hlt:=natSmall_bound a h8
   unfold smI
   rw [if_pos h8]
   obtain ⟨n,hn⟩ : ∃ n,num a=n:=⟨_,rfl⟩
   rw [hn] at HSM hlt ⊢
   clear hva hv hne h8 hn
   cases neg with
   | true =>
     rw [if_pos rfl]
     by_cases hl : n≤9223372036854775808
     · rw [if_pos hl,Option.getD_some,Option.isSome_some]
       obtain ⟨z,hz⟩ : ∃ z : Int,-(n : Int)=z:=⟨_,rfl⟩
       rw [hz]
       have d1 : decide ((9223372036854775808 : Int) < (n : Int))=false:=decide_eq_false (by omega)
       have d2 : decide (9223372036854775808 < n)=false:=decide_eq_false (by omega)
       have hres : wrap64 (-wrap64 (n : Int))=z:=by unfold wrap64;omega
       have HRES:=Lib.hid hres
       clear hres hlt hz
       go_enter Tryz.func100, Tryz.ntmps100
       go_wp2_with (first | (go_at_call 126;(with_reducible refine (HSM.out _).mono ?_);rintro e w1 ⟨rfl,rfl⟩) | (go_at_call 127;(with_reducible refine (HVA.out _).mono ?_);rintro e w2 ⟨rfl,hb2⟩;have H2:=Lib.hid (HB0.out.next hb2);have x0:=cell_of_row _ _ 0 _ _ _ H2.out.arg;have x1:=cell_of_row _ _ 1 _ _ _ H2.out.arg;clear hb2))
       go_ret2
       exact ⟨by rw [← HRES.out];rfl,H2.out.bel⟩
     · rw [if_neg hl,Option.getD_none,Option.isSome_none]
       have d1 : decide ((9223372036854775808 : Int) < (n : Int))=true:=decide_eq_true (by omega)
       have d2 : decide (9223372036854775808 < n)=true:=decide_eq_true (by omega)
       clear hlt
       go_enter Tryz.func100, Tryz.ntmps100
       go_wp2_with (first | (go_at_call 126;(with_reducible refine (HSM.out _).mono ?_);rintro e w1 ⟨rfl,rfl⟩) | (go_at_call 127;(with_reducible refine (HVA.out _).mono ?_);rintro e w2 ⟨rfl,hb2⟩;have H2:=Lib.hid (HB0.out.next hb2);have x0:=cell_of_row _ _ 0 _ _ _ H2.out.arg;have x1:=cell_of_row _ _ 1 _ _ _ H2.out.arg;clear hb2))
       go_ret2
       exact ⟨rfl,H2.out.bel⟩
   | false =>
     rw [if_neg (by decide)]
     by_cases hl : n≤9223372036854775807
     · rw [if_pos hl,Option.getD_some,Option.isSome_some]
       have d1 : decide ((9223372036854775807 : Int) < (n : Int))=false:=decide_eq_false (by omega)
       have d2 : decide (9223372036854775807 < n)=false:=decide_eq_false (by omega)
       clear hlt
       go_enter Tryz.func100, Tryz.ntmps100
       go_wp2_with (first | (go_at_call 126;(with_reducible refine (HSM.out _).mono ?_);rintro e w1 ⟨rfl,rfl⟩) | (go_at_call 127;(with_reducible refine (HVA.out _).mono ?_);rintro e w2 ⟨rfl,hb2⟩;have H2:=Lib.hid (HB0.out.next hb2);have x0:=cell_of_row _ _ 0 _ _ _ H2.out.arg;have x1:=cell_of_row _ _ 1 _ _ _ H2.out.arg;clear hb2))
       go_ret2
       exact ⟨rfl,H2.out.bel⟩
     · rw [if_neg hl,Option.getD_none,Option.isSome_none]
       have d1 : decide ((9223372036854775807 : Int) < (n : Int))=true:=decide_eq_true (by omega)
       have d2 : decide (9223372036854775807 < n)=true:=decide_eq_true (by omega)
       clear hlt
       go_enter Tryz.func100, Tryz.ntmps100
       go_wp2_with (first | (go_at_call 126;(with_reducible refine (HSM.out _).mono ?_);rintro e w1 ⟨rfl,rfl⟩) | (go_at_call 127;(with_reducible refine (HVA.out _).mono ?_);rintro e w2 ⟨rfl,hb2⟩;have H2:=Lib.hid (HB0.out.next hb2);have x0:=cell_of_row _ _ 0 _ _ _ H2.out.arg;have x1:=cell_of_row _ _ 1 _ _ _ H2.out.arg;clear hb2))
       go_ret2
       exact ⟨rfl,H2.out.bel⟩
 · rw [natSmall_no h8] at HSM
   have hs : smI neg a=none:=by unfold smI;rw [if_neg h8]
   rw [hs,Option.getD_none,Option.isSome_none]
   clear hva hv hne h8 hs
   go_enter Tryz.func100, Tryz.ntmps100
   go_wp2_with (first | (go_at_call 126;(with_reducible refine (HSM.out _).mono ?_);rintro e w1 ⟨rfl,rfl⟩))
   go_ret2
   exact ⟨rfl,HB0.out.bel⟩
theorem one_list : (B 1).toList=[1]:=by rw [ByteArray.toList_eq];decide
theorem rt_len (l : Its) (h2 : Its.len l≠2) (A : Option Addr) (n c : Nat) (S : Nat→Prop) (w : World) (hn : Its.len l=n) (hz : Its.size l≤100000) (hok : okI l=true) (hsl : SlI w S A l) (hS : ∀ g,S g→g < w.heap.size) :
  Calls Tryz.prog 74 #[.agg #[.int .i64 2,.string ⟨#[]⟩,.string ⟨#[]⟩,.slice A n c]] w (TiGot w false ⟨#[]⟩ false):=by
 have hv:=fun W (hb : Below w.heap.size w W)=>r08_Valid (Its.size l) (2,⟨#[]⟩,⟨#[]⟩,l) A c S W (Nat.le_refl _) hz (hsl.below hb hS) (fun g hg=>Nat.lt_of_lt_of_le (hS g hg) hb.size)
 have hok1 : okOne (2,⟨#[]⟩,⟨#[]⟩,l)=true:=by
  unfold okOne Its.one
  unfold okI
  rw [hok]
  rfl
 rw [hok1] at hv
 unfold valI at hv
 dsimp only at hv
 rw [hn] at hv
 have HV:=Lib.hid hv
 have HT:=Lib.hid (TiB.start (w:=w) (n:=n) (A:=A) (c:=c))
 have i2 : ((n : Int) != 2)=true:=by rw [hn] at h2;simp;omega
 clear hsl hS hv hok hok1 hz hn
 go_enter Tryz.func74, Tryz.ntmps74
 go_upto_region 2 with (go_at_call 108;(with_reducible refine (HV.out _ HT.out.bel).mono ?_);rintro e w1 ⟨rfl,hb1⟩;have H1:=Lib.hid (HT.out.next hb1);have x0:=cell_of_row _ _ 0 _ _ _ H1.out.it;have x3:=cell_of_row _ _ 3 _ _ _ H1.out.it;have r0:=cell_of_row _ _ 0 _ _ _ H1.out.res;have r1:=cell_of_row _ _ 1 _ _ _ H1.out.res;have f0:=frozen_of_row _ _ 0 _ _ H1.out.res;have f1:=frozen_of_row _ _ 1 _ _ H1.out.res;clear hb1)
 go_wp2_with fail
 refine bodyPost_ret (v:=.tuple #[.agg #[.bool false,.string ⟨#[]⟩],.bool false]) (by simp [results,Tryz.results74,go_sem,r0,r1]) rfl ?_
 exact ⟨rfl,(H1.out.bel.setCell (p:=⟨w.heap.size+1,0,none⟩) (Nat.le_succ _) _).setCell (p:=⟨w.heap.size+1,1,none⟩) (Nat.le_succ _) _⟩
theorem rt_k0 (k0 k1 : Int) (x y t0 t1 : ByteArray) (l0 l1 : Its) (h2 : k0≠0) (A : Option Addr) (n c : Nat) (S : Nat→Prop) (w : World) (hn : Its.len (.cons k0 x t0 l0 (.cons k1 y t1 l1 .nil))=n) (hz : Its.size (.cons k0 x t0 l0 (.cons k1 y t1 l1 .nil))≤100000) (hok : okI (.cons k0 x t0 l0 (.cons k1 y t1 l1 .nil))=true) (hsl : SlI w S A (.cons k0 x t0 l0 (.cons k1 y t1 l1 .nil))) (hS : ∀ g,S g→g < w.heap.size) :
  Calls Tryz.prog 74 #[.agg #[.int .i64 2,.string ⟨#[]⟩,.string ⟨#[]⟩,.slice A n c]] w (TiGot w false ⟨#[]⟩ false):=by
 have hv:=fun W (hb : Below w.heap.size w W)=>r08_Valid (Its.size (.cons k0 x t0 l0 (.cons k1 y t1 l1 .nil))) (2,⟨#[]⟩,⟨#[]⟩,(.cons k0 x t0 l0 (.cons k1 y t1 l1 .nil))) A c S W (Nat.le_refl _) hz (hsl.below hb hS) (fun g hg=>Nat.lt_of_lt_of_le (hS g hg) hb.size)
 have hok1 : okOne (2,⟨#[]⟩,⟨#[]⟩,(.cons k0 x t0 l0 (.cons k1 y t1 l1 .nil)))=true:=by
  unfold okOne Its.one
  unfold okI
  rw [hok]
  rfl
 rw [hok1] at hv
 unfold valI at hv
 dsimp only at hv
 rw [hn] at hv
 have HV:=Lib.hid hv
 have HT:=Lib.hid (TiB.start (w:=w) (n:=n) (A:=A) (c:=c))
 have HSL:=Lib.hid (fun W (hb : Below w.heap.size w W)=>hsl.below hb hS)
 obtain ⟨g,off,hA,hg,-⟩:=two_cellsG hsl
 subst hA
 obtain rfl : n=2:=hn.symm
 have i2 : (k0 != 0)=true:=by simp [h2]
 have HI:=Lib.hid h2
 clear h2
 clear hsl hS hv hok hok1 hz hn
 go_enter Tryz.func74, Tryz.ntmps74
 go_upto_region 2 with (go_at_call 108;(with_reducible refine (HV.out _ HT.out.bel).mono ?_);rintro e w1 ⟨rfl,hb1⟩;have H1:=Lib.hid (HT.out.next hb1);obtain ⟨g',off',hA',hg',y0,y1,y2,y3⟩:=two_cellsG (HSL.out w1 H1.out.bel);injection hA' with hA';injection hA' with hA1 hA2;subst hA1 hA2;have x0:=cell_of_row _ _ 0 _ _ _ H1.out.it;have x3:=cell_of_row _ _ 3 _ _ _ H1.out.it;have r0:=cell_of_row _ _ 0 _ _ _ H1.out.res;have r1:=cell_of_row _ _ 1 _ _ _ H1.out.res;have f0:=frozen_of_row _ _ 0 _ _ H1.out.res;have f1:=frozen_of_row _ _ 1 _ _ H1.out.res;clear hb1)
 go_wp2_with fail
 refine bodyPost_ret (v:=.tuple #[.agg #[.bool false,.string ⟨#[]⟩],.bool false]) (by simp [results,Tryz.results74,go_sem,r0,r1]) rfl ?_
 exact ⟨rfl,(H1.out.bel.setCell (p:=⟨w.heap.size+1,0,none⟩) (Nat.le_succ _) _).setCell (p:=⟨w.heap.size+1,1,none⟩) (Nat.le_succ _) _⟩
theorem rt_k1 (k1 : Int) (x y t0 t1 : ByteArray) (l0 l1 : Its) (h2 : k1≠0) (A : Option Addr) (n c : Nat) (S : Nat→Prop) (w : World) (hn : Its.len (.cons 0 x t0 l0 (.cons k1 y t1 l1 .nil))=n) (hz : Its.size (.cons 0 x t0 l0 (.cons k1 y t1 l1 .nil))≤100000) (hok : okI (.cons 0 x t0 l0 (.cons k1 y t1 l1 .nil))=true) (hsl : SlI w S A (.cons 0 x t0 l0 (.cons k1 y t1 l1 .nil))) (hS : ∀ g,S g→g < w.heap.size) :
  Calls Tryz.prog 74 #[.agg #[.int .i64 2,.string ⟨#[]⟩,.string ⟨#[]⟩,.slice A n c]] w (TiGot w false ⟨#[]⟩ false):=by
 have hv:=fun W (hb : Below w.heap.size w W)=>r08_Valid (Its.size (.cons 0 x t0 l0 (.cons k1 y t1 l1 .nil))) (2,⟨#[]⟩,⟨#[]⟩,(.cons 0 x t0 l0 (.cons k1 y t1 l1 .nil))) A c S W (Nat.le_refl _) hz (hsl.below hb hS) (fun g hg=>Nat.lt_of_lt_of_le (hS g hg) hb.size)
 have hok1 : okOne (2,⟨#[]⟩,⟨#[]⟩,(.cons 0 x t0 l0 (.cons k1 y t1 l1 .nil)))=true:=by
  unfold okOne Its.one
  unfold okI
  rw [hok]
  rfl
 rw [hok1] at hv
 unfold valI at hv
 dsimp only at hv
 rw [hn] at hv
 have HV:=Lib.hid hv
 have HT:=Lib.hid (TiB.start (w:=w) (n:=n) (A:=A) (c:=c))
 have HSL:=Lib.hid (fun W (hb : Below w.heap.size w W)=>hsl.below hb hS)
 obtain ⟨g,off,hA,hg,-⟩:=two_cellsG hsl
 subst hA
 obtain rfl : n=2:=hn.symm
 have i2 : (k1 != 0)=true:=by simp [h2]
 have HI:=Lib.hid h2
 clear h2
 clear hsl hS hv hok hok1 hz hn
 go_enter Tryz.func74, Tryz.ntmps74
 go_upto_region 2 with (go_at_call 108;(with_reducible refine (HV.out _ HT.out.bel).mono ?_);rintro e w1 ⟨rfl,hb1⟩;have H1:=Lib.hid (HT.out.next hb1);obtain ⟨g',off',hA',hg',y0,y1,y2,y3⟩:=two_cellsG (HSL.out w1 H1.out.bel);injection hA' with hA';injection hA' with hA1 hA2;subst hA1 hA2;have x0:=cell_of_row _ _ 0 _ _ _ H1.out.it;have x3:=cell_of_row _ _ 3 _ _ _ H1.out.it;have r0:=cell_of_row _ _ 0 _ _ _ H1.out.res;have r1:=cell_of_row _ _ 1 _ _ _ H1.out.res;have f0:=frozen_of_row _ _ 0 _ _ H1.out.res;have f1:=frozen_of_row _ _ 1 _ _ H1.out.res;clear hb1)
 go_wp2_with fail
 refine bodyPost_ret (v:=.tuple #[.agg #[.bool false,.string ⟨#[]⟩],.bool false]) (by simp [results,Tryz.results74,go_sem,r0,r1]) rfl ?_
 exact ⟨rfl,(H1.out.bel.setCell (p:=⟨w.heap.size+1,0,none⟩) (Nat.le_succ _) _).setCell (p:=⟨w.heap.size+1,1,none⟩) (Nat.le_succ _) _⟩
theorem rt_pos (x y t0 t1 : ByteArray) (l0 l1 : Its) (h2 : x.size=0) (A : Option Addr) (n c : Nat) (S : Nat→Prop) (w : World) (hn : Its.len (.cons 0 x t0 l0 (.cons 0 y t1 l1 .nil))=n) (hz : Its.size (.cons 0 x t0 l0 (.cons 0 y t1 l1 .nil))≤100000) (hok : okI (.cons 0 x t0 l0 (.cons 0 y t1 l1 .nil))=true) (hsl : SlI w S A (.cons 0 x t0 l0 (.cons 0 y t1 l1 .nil))) (hS : ∀ g,S g→g < w.heap.size) :
  Calls Tryz.prog 74 #[.agg #[.int .i64 2,.string ⟨#[]⟩,.string ⟨#[]⟩,.slice A n c]] w (TiGot w false y true):=by
 have hv:=fun W (hb : Below w.heap.size w W)=>r08_Valid (Its.size (.cons 0 x t0 l0 (.cons 0 y t1 l1 .nil))) (2,⟨#[]⟩,⟨#[]⟩,(.cons 0 x t0 l0 (.cons 0 y t1 l1 .nil))) A c S W (Nat.le_refl _) hz (hsl.below hb hS) (fun g hg=>Nat.lt_of_lt_of_le (hS g hg) hb.size)
 have hok1 : okOne (2,⟨#[]⟩,⟨#[]⟩,(.cons 0 x t0 l0 (.cons 0 y t1 l1 .nil)))=true:=by
  unfold okOne Its.one
  unfold okI
  rw [hok]
  rfl
 rw [hok1] at hv
 unfold valI at hv
 dsimp only at hv
 rw [hn] at hv
 have HV:=Lib.hid hv
 have HT:=Lib.hid (TiB.start (w:=w) (n:=n) (A:=A) (c:=c))
 have HSL:=Lib.hid (fun W (hb : Below w.heap.size w W)=>hsl.below hb hS)
 obtain ⟨g,off,hA,hg,-⟩:=two_cellsG hsl
 subst hA
 obtain rfl : n=2:=hn.symm
 obtain rfl : x=⟨#[]⟩:=sz0 h2
 clear hsl hS hv hok hok1 hz hn
 go_enter Tryz.func74, Tryz.ntmps74
 go_upto_region 3 with (go_at_call 108;(with_reducible refine (HV.out _ HT.out.bel).mono ?_);rintro e w1 ⟨rfl,hb1⟩;have H1:=Lib.hid (HT.out.next hb1);obtain ⟨g',off',hA',hg',y0,y1,y2,y3⟩:=two_cellsG (HSL.out w1 H1.out.bel);injection hA' with hA';injection hA' with hA1 hA2;subst hA1 hA2;have x0:=cell_of_row _ _ 0 _ _ _ H1.out.it;have x3:=cell_of_row _ _ 3 _ _ _ H1.out.it;have r0:=cell_of_row _ _ 0 _ _ _ H1.out.res;have r1:=cell_of_row _ _ 1 _ _ _ H1.out.res;have f0:=frozen_of_row _ _ 0 _ _ H1.out.res;have f1:=frozen_of_row _ _ 1 _ _ H1.out.res;clear hb1)
 go_quiet ((fail))
 clear x0 x3 y0 y1 y2 y3 r0 r1 f0 f1
 have H2:=Lib.hid (H1.out.drewN (q:=nq))
 obtain ⟨w2,hw2⟩ : ∃ w2,w1.drewN nq=w2:=⟨_,rfl⟩
 rw [hw2] at H2 ⊢
 clear hw2
 have r0:=cell_of_row _ _ 0 _ _ _ H2.out.res
 have r1:=cell_of_row _ _ 1 _ _ _ H2.out.res
 have f0:=frozen_of_row _ _ 0 _ _ H2.out.res
 have f1:=frozen_of_row _ _ 1 _ _ H2.out.res
 go_wp2_with fail
 refine bodyPost_ret (v:=.tuple #[.agg #[.bool false,.string y],.bool true]) (by simp [results,Tryz.results74,go_sem,r0,r1]) rfl ?_
 exact ⟨rfl,(H2.out.bel.setCell (p:=⟨w.heap.size+1,0,none⟩) (Nat.le_succ _) _).setCell (p:=⟨w.heap.size+1,1,none⟩) (Nat.le_succ _) _⟩
theorem rt_neg (x y t0 t1 : ByteArray) (l0 l1 : Its) (h2 : x=B 1) (h3 : y.size≠0) (A : Option Addr) (n c : Nat) (S : Nat→Prop) (w : World) (hn : Its.len (.cons 0 x t0 l0 (.cons 0 y t1 l1 .nil))=n) (hz : Its.size (.cons 0 x t0 l0 (.cons 0 y t1 l1 .nil))≤100000) (hok : okI (.cons 0 x t0 l0 (.cons 0 y t1 l1 .nil))=true) (hsl : SlI w S A (.cons 0 x t0 l0 (.cons 0 y t1 l1 .nil))) (hS : ∀ g,S g→g < w.heap.size) :
  Calls Tryz.prog 74 #[.agg #[.int .i64 2,.string ⟨#[]⟩,.string ⟨#[]⟩,.slice A n c]] w (TiGot w true y true):=by
 have hv:=fun W (hb : Below w.heap.size w W)=>r08_Valid (Its.size (.cons 0 x t0 l0 (.cons 0 y t1 l1 .nil))) (2,⟨#[]⟩,⟨#[]⟩,(.cons 0 x t0 l0 (.cons 0 y t1 l1 .nil))) A c S W (Nat.le_refl _) hz (hsl.below hb hS) (fun g hg=>Nat.lt_of_lt_of_le (hS g hg) hb.size)
 have hok1 : okOne (2,⟨#[]⟩,⟨#[]⟩,(.cons 0 x t0 l0 (.cons 0 y t1 l1 .nil)))=true:=by
  unfold okOne Its.one
  unfold okI
  rw [hok]
  rfl
 rw [hok1] at hv
 unfold valI at hv
 dsimp only at hv
 rw [hn] at hv
 have HV:=Lib.hid hv
 have HT:=Lib.hid (TiB.start (w:=w) (n:=n) (A:=A) (c:=c))
 have HSL:=Lib.hid (fun W (hb : Below w.heap.size w W)=>hsl.below hb hS)
 obtain ⟨g,off,hA,hg,-⟩:=two_cellsG hsl
 subst hA
 obtain rfl : n=2:=hn.symm
 have b2 : y.toList.isEmpty=false:=isEmpty_no h3
 subst h2
 have b1:=B_isEmpty_false (n:=1) (by decide)
 have b3 : ((B 1).toList==[1])=true:=by rw [one_list];rfl
 obtain ⟨one,hone⟩ : ∃ one,B 1=one:=⟨_,rfl⟩
 rw [hone] at HSL b1 b3
 clear hsl hS hv hok hok1 hz hn
 go_enter Tryz.func74, Tryz.ntmps74
 go_upto_region 3 with (go_at_call 108;(with_reducible refine (HV.out _ HT.out.bel).mono ?_);rintro e w1 ⟨rfl,hb1⟩;have H1:=Lib.hid (HT.out.next hb1);obtain ⟨g',off',hA',hg',y0,y1,y2,y3⟩:=two_cellsG (HSL.out w1 H1.out.bel);injection hA' with hA';injection hA' with hA1 hA2;subst hA1 hA2;have x0:=cell_of_row _ _ 0 _ _ _ H1.out.it;have x3:=cell_of_row _ _ 3 _ _ _ H1.out.it;have r0:=cell_of_row _ _ 0 _ _ _ H1.out.res;have r1:=cell_of_row _ _ 1 _ _ _ H1.out.res;have f0:=frozen_of_row _ _ 0 _ _ H1.out.res;have f1:=frozen_of_row _ _ 1 _ _ H1.out.res;clear hb1)
 go_quiet ((fail))
 clear x0 x3 y0 y1 y2 y3 r0 r1 f0 f1
 have H2:=Lib.hid (H1.out.drewN (q:=nq))
 obtain ⟨w2,hw2⟩ : ∃ w2,w1.drewN nq=w2:=⟨_,rfl⟩
 rw [hw2] at H2 ⊢
 clear hw2
 have r0:=cell_of_row _ _ 0 _ _ _ H2.out.res
 have r1:=cell_of_row _ _ 1 _ _ _ H2.out.res
 have f0:=frozen_of_row _ _ 0 _ _ H2.out.res
 have f1:=frozen_of_row _ _ 1 _ _ H2.out.res
 go_wp2_with fail
 refine bodyPost_ret (v:=.tuple #[.agg #[.bool true,.string y],.bool true]) (by simp [results,Tryz.results74,go_sem,r0,r1]) rfl ?_
 exact ⟨rfl,(H2.out.bel.setCell (p:=⟨w.heap.size+1,0,none⟩) (Nat.le_succ _) _).setCell (p:=⟨w.heap.size+1,1,none⟩) (Nat.le_succ _) _⟩
theorem rt_zero (x y t0 t1 : ByteArray) (l0 l1 : Its) (h2 : x=B 1) (h3 : y.size=0) (A : Option Addr) (n c : Nat) (S : Nat→Prop) (w : World) (hn : Its.len (.cons 0 x t0 l0 (.cons 0 y t1 l1 .nil))=n) (hz : Its.size (.cons 0 x t0 l0 (.cons 0 y t1 l1 .nil))≤100000) (hok : okI (.cons 0 x t0 l0 (.cons 0 y t1 l1 .nil))=true) (hsl : SlI w S A (.cons 0 x t0 l0 (.cons 0 y t1 l1 .nil))) (hS : ∀ g,S g→g < w.heap.size) :
  Calls Tryz.prog 74 #[.agg #[.int .i64 2,.string ⟨#[]⟩,.string ⟨#[]⟩,.slice A n c]] w (TiGot w false ⟨#[]⟩ false):=by
 have hv:=fun W (hb : Below w.heap.size w W)=>r08_Valid (Its.size (.cons 0 x t0 l0 (.cons 0 y t1 l1 .nil))) (2,⟨#[]⟩,⟨#[]⟩,(.cons 0 x t0 l0 (.cons 0 y t1 l1 .nil))) A c S W (Nat.le_refl _) hz (hsl.below hb hS) (fun g hg=>Nat.lt_of_lt_of_le (hS g hg) hb.size)
 have hok1 : okOne (2,⟨#[]⟩,⟨#[]⟩,(.cons 0 x t0 l0 (.cons 0 y t1 l1 .nil)))=true:=by
  unfold okOne Its.one
  unfold okI
  rw [hok]
  rfl
 rw [hok1] at hv
 unfold valI at hv
 dsimp only at hv
 rw [hn] at hv
 have HV:=Lib.hid hv
 have HT:=Lib.hid (TiB.start (w:=w) (n:=n) (A:=A) (c:=c))
 have HSL:=Lib.hid (fun W (hb : Below w.heap.size w W)=>hsl.below hb hS)
 obtain ⟨g,off,hA,hg,-⟩:=two_cellsG hsl
 subst hA
 obtain rfl : n=2:=hn.symm
 obtain rfl : y=⟨#[]⟩:=sz0 h3
 subst h2
 have b1:=B_isEmpty_false (n:=1) (by decide)
 have b3 : ((B 1).toList==[1])=true:=by rw [one_list];rfl
 obtain ⟨one,hone⟩ : ∃ one,B 1=one:=⟨_,rfl⟩
 rw [hone] at HSL b1 b3
 clear hsl hS hv hok hok1 hz hn
 go_enter Tryz.func74, Tryz.ntmps74
 go_upto_region 3 with (go_at_call 108;(with_reducible refine (HV.out _ HT.out.bel).mono ?_);rintro e w1 ⟨rfl,hb1⟩;have H1:=Lib.hid (HT.out.next hb1);obtain ⟨g',off',hA',hg',y0,y1,y2,y3⟩:=two_cellsG (HSL.out w1 H1.out.bel);injection hA' with hA';injection hA' with hA1 hA2;subst hA1 hA2;have x0:=cell_of_row _ _ 0 _ _ _ H1.out.it;have x3:=cell_of_row _ _ 3 _ _ _ H1.out.it;have r0:=cell_of_row _ _ 0 _ _ _ H1.out.res;have r1:=cell_of_row _ _ 1 _ _ _ H1.out.res;have f0:=frozen_of_row _ _ 0 _ _ H1.out.res;have f1:=frozen_of_row _ _ 1 _ _ H1.out.res;clear hb1)
 go_quiet ((fail))
 clear x0 x3 y0 y1 y2 y3 r0 r1 f0 f1
 have H2:=Lib.hid (H1.out.drewN (q:=nq))
 obtain ⟨w2,hw2⟩ : ∃ w2,w1.drewN nq=w2:=⟨_,rfl⟩
 rw [hw2] at H2 ⊢
 clear hw2
 have r0:=cell_of_row _ _ 0 _ _ _ H2.out.res
 have r1:=cell_of_row _ _ 1 _ _ _ H2.out.res
 have f0:=frozen_of_row _ _ 0 _ _ H2.out.res
 have f1:=frozen_of_row _ _ 1 _ _ H2.out.res
 go_wp2_with fail
 refine bodyPost_ret (v:=.tuple #[.agg #[.bool false,.string ⟨#[]⟩],.bool false]) (by simp [results,Tryz.results74,go_sem,r0,r1]) rfl ?_
 exact ⟨rfl,(H2.out.bel.setCell (p:=⟨w.heap.size+1,0,none⟩) (Nat.le_succ _) _).setCell (p:=⟨w.heap.size+1,1,none⟩) (Nat.le_succ _) _⟩
theorem rt_other (x y t0 t1 : ByteArray) (l0 l1 : Its) (h2 : x≠B 1) (h3 : x.size≠0) (A : Option Addr) (n c : Nat) (S : Nat→Prop) (w : World) (hn : Its.len (.cons 0 x t0 l0 (.cons 0 y t1 l1 .nil))=n) (hz : Its.size (.cons 0 x t0 l0 (.cons 0 y t1 l1 .nil))≤100000) (hok : okI (.cons 0 x t0 l0 (.cons 0 y t1 l1 .nil))=true) (hsl : SlI w S A (.cons 0 x t0 l0 (.cons 0 y t1 l1 .nil))) (hS : ∀ g,S g→g < w.heap.size) :
  Calls Tryz.prog 74 #[.agg #[.int .i64 2,.string ⟨#[]⟩,.string ⟨#[]⟩,.slice A n c]] w (TiGot w false ⟨#[]⟩ false):=by
 have hv:=fun W (hb : Below w.heap.size w W)=>r08_Valid (Its.size (.cons 0 x t0 l0 (.cons 0 y t1 l1 .nil))) (2,⟨#[]⟩,⟨#[]⟩,(.cons 0 x t0 l0 (.cons 0 y t1 l1 .nil))) A c S W (Nat.le_refl _) hz (hsl.below hb hS) (fun g hg=>Nat.lt_of_lt_of_le (hS g hg) hb.size)
 have hok1 : okOne (2,⟨#[]⟩,⟨#[]⟩,(.cons 0 x t0 l0 (.cons 0 y t1 l1 .nil)))=true:=by
  unfold okOne Its.one
  unfold okI
  rw [hok]
  rfl
 rw [hok1] at hv
 unfold valI at hv
 dsimp only at hv
 rw [hn] at hv
 have HV:=Lib.hid hv
 have HT:=Lib.hid (TiB.start (w:=w) (n:=n) (A:=A) (c:=c))
 have HSL:=Lib.hid (fun W (hb : Below w.heap.size w W)=>hsl.below hb hS)
 obtain ⟨g,off,hA,hg,-⟩:=two_cellsG hsl
 subst hA
 obtain rfl : n=2:=hn.symm
 have b1 : x.toList.isEmpty=false:=isEmpty_no h3
 have b4 : (x.toList==[1])=false:=by cases hb : (x.toList==[1]) with | false=>rfl | true=>exact absurd ((str_eq _ _).1 (by rw [one_list];exact hb)) h2
 clear hsl hS hv hok hok1 hz hn
 go_enter Tryz.func74, Tryz.ntmps74
 go_upto_region 3 with (go_at_call 108;(with_reducible refine (HV.out _ HT.out.bel).mono ?_);rintro e w1 ⟨rfl,hb1⟩;have H1:=Lib.hid (HT.out.next hb1);obtain ⟨g',off',hA',hg',y0,y1,y2,y3⟩:=two_cellsG (HSL.out w1 H1.out.bel);injection hA' with hA';injection hA' with hA1 hA2;subst hA1 hA2;have x0:=cell_of_row _ _ 0 _ _ _ H1.out.it;have x3:=cell_of_row _ _ 3 _ _ _ H1.out.it;have r0:=cell_of_row _ _ 0 _ _ _ H1.out.res;have r1:=cell_of_row _ _ 1 _ _ _ H1.out.res;have f0:=frozen_of_row _ _ 0 _ _ H1.out.res;have f1:=frozen_of_row _ _ 1 _ _ H1.out.res;clear hb1)
 go_quiet ((fail))
 clear x0 x3 y0 y1 y2 y3 r0 r1 f0 f1
 have H2:=Lib.hid (H1.out.drewN (q:=nq))
 obtain ⟨w2,hw2⟩ : ∃ w2,w1.drewN nq=w2:=⟨_,rfl⟩
 rw [hw2] at H2 ⊢
 clear hw2
 have r0:=cell_of_row _ _ 0 _ _ _ H2.out.res
 have r1:=cell_of_row _ _ 1 _ _ _ H2.out.res
 have f0:=frozen_of_row _ _ 0 _ _ H2.out.res
 have f1:=frozen_of_row _ _ 1 _ _ H2.out.res
 go_wp2_with fail
 refine bodyPost_ret (v:=.tuple #[.agg #[.bool false,.string ⟨#[]⟩],.bool false]) (by simp [results,Tryz.results74,go_sem,r0,r1]) rfl ?_
 exact ⟨rfl,(H2.out.bel.setCell (p:=⟨w.heap.size+1,0,none⟩) (Nat.le_succ _) _).setCell (p:=⟨w.heap.size+1,1,none⟩) (Nat.le_succ _) _⟩
theorem r08_ToIntX (l : Its) (A : Option Addr) (n c : Nat) (S : Nat→Prop) (w : World) (hn : l.len=n) (hz : l.size≤100000) (hok : okI l=true) (hsl : SlI w S A l) (hS : ∀ g,S g→g < w.heap.size) :
  Calls Tryz.prog 74 #[.agg #[.int .i64 2,.string ⟨#[]⟩,.string ⟨#[]⟩,.slice A n c]] w (TiGot w (toB (toI l)) (toA (toI l)) (toI l).isSome):=by
 cases l with
 | nil=>exact rt_len .nil (by simp [Its.len]) A n c S w hn hz hok hsl hS
 | cons k0 x t0 l0 r =>
   cases r with
   | nil=>exact rt_len _ (by simp [Its.len]) A n c S w hn hz hok hsl hS
   | cons k1 y t1 l1 r2 =>
     cases r2 with
     | cons k2 z t2 l2 r3=>exact rt_len _ (by simp [Its.len]) A n c S w hn hz hok hsl hS
     | nil =>
       dsimp only [toI]
       by_cases h0 : k0=0
       · subst h0
         by_cases h1 : k1=0
         · subst h1
           rw [if_pos ⟨rfl,rfl⟩]
           by_cases hx : x.size=0
           · rw [if_pos hx]
             exact rt_pos x y t0 t1 l0 l1 hx A n c S w hn hz hok hsl hS
           · rw [if_neg hx]
             by_cases hb : x=B 1
             · by_cases hy : y.size=0
               · rw [if_neg (fun h=>h.2 hy)]
                 exact rt_zero x y t0 t1 l0 l1 hb hy A n c S w hn hz hok hsl hS
               · rw [if_pos ⟨hb,hy⟩]
                 exact rt_neg x y t0 t1 l0 l1 hb hy A n c S w hn hz hok hsl hS
             · rw [if_neg (fun h=>hb h.1)]
               exact rt_other x y t0 t1 l0 l1 hb hx A n c S w hn hz hok hsl hS
         · rw [if_neg (fun h=>h1 h.2)]
           exact rt_k1 k1 x y t0 t1 l0 l1 h1 A n c S w hn hz hok hsl hS
       · rw [if_neg (fun h=>h0 h.1)]
         exact rt_k0 k0 k1 x y t0 t1 l0 l1 h0 A n c S w hn hz hok hsl hS
theorem r08_ToIntN (A : Option Addr) (c : Nat) (w : World) : Calls Tryz.prog 74 #[.agg #[.int .i64 0,.string ⟨#[]⟩,.string ⟨#[]⟩,.slice A 0 c]] w (TiGot w false ⟨#[]⟩ false):=by
 have hv:=fun W=>r08_Valid 0 (0,⟨#[]⟩,⟨#[]⟩,.nil) A c (fun _=>False) W (Nat.le_refl _) (by decide) (show SlI W (fun _=>False) A .nil from ⟨[],fun h=>absurd h (by simp [Its.len]),rfl⟩) (fun g hg=>hg.elim)
 rw [show okOne (0,⟨#[]⟩,⟨#[]⟩,.nil)=true by decide] at hv
 unfold valI at hv
 dsimp only [Its.len] at hv
 have HV:=Lib.hid hv
 have hbx:=two_boxes w (.cells #[.int .i64 0,.string ⟨#[]⟩,.string ⟨#[]⟩,.slice A 0 c] 63) (.cells #[.bool false,.string ⟨#[]⟩] 129)
 have hbw : Below w.heap.size w ((w.alloc (.cells #[.int .i64 0,.string ⟨#[]⟩,.string ⟨#[]⟩,.slice A 0 c] 63)).alloc (.cells #[.bool false,.string ⟨#[]⟩] 129)):=((Below.refl _ _).alloc (Nat.le_refl _) _).alloc (by simp) _
 have HB:=Lib.hid (And.intro hbw hbx)
 clear hv hbx hbw
 go_enter Tryz.func74, Tryz.ntmps74
 go_wp2_with (go_at_call 108;(with_reducible refine (HV.out _).mono ?_);rintro e w1 ⟨rfl,hb1⟩;have hx:=(hb1.block _ (by simp only [World.size_alloc];omega)).trans HB.out.2.1;have hr:=(hb1.block _ (by simp only [World.size_alloc];omega)).trans HB.out.2.2;have x0:=cell_of_row _ _ 0 _ _ _ hx;have x3:=cell_of_row _ _ 3 _ _ _ hx;have r0:=cell_of_row _ _ 0 _ _ _ hr;have r1:=cell_of_row _ _ 1 _ _ _ hr;have f0:=frozen_of_row _ _ 0 _ _ hr;have f1:=frozen_of_row _ _ 1 _ _ hr;have HB1:=Lib.hid (below2 HB.out.1 hb1);clear hb1 hx hr)
 refine bodyPost_ret (v:=.tuple #[.agg #[.bool false,.string ⟨#[]⟩],.bool false]) (by simp [results,Tryz.results74,go_sem,r0,r1]) rfl ?_
 exact ⟨rfl,(HB1.out.setCell (p:=⟨w.heap.size+1,0,none⟩) (Nat.le_succ _) _).setCell (p:=⟨w.heap.size+1,1,none⟩) (Nat.le_succ _) _⟩
theorem r01_U64 (s : ByteArray) (w : World) (h : s.size≤8) :
  Calls Tryz.prog 130 #[.string s] w fun e w'=>e=.returned (.int .u64 (num s : Nat))∧w=w':=by
 have HE:=Lib.hid (show num s=val (s.data.toList.take s.size) by rw [size_eq,List.take_length];rfl)
 go_enter Tryz.func130, Tryz.ntmps130
 go_wp2
 go_loop [3,4] (fun n c=>∃ i : Nat,i≤s.size∧c=.int .i64 i∧n=.int .u64 (val (s.data.toList.take i) : Nat)) (fun _ c=>s.size - (intOf c).toNat)
 case atStart=>exact ⟨0,by omega,rfl,rfl⟩
 case round =>
  obtain ⟨i,hi,rfl,rfl⟩:=hrel
  by_cases hlt : i < s.size
  · have h1:=val_take_lt s.data.toList (i+1)
    have h2 : 256 ^ (i+1)≤256 ^ 8:=Nat.pow_le_pow_right (by omega) (by omega)
    have h3 : (s.data.toList)[i]'(by rw [← size_eq];exact hlt)=s[i]:=rfl
    have h4:=val_take_succ s.data.toList i (by rw [← size_eq];exact hlt)
    rw [h3] at h4
    have h5 : val (s.data.toList.take i)*256+s[i].toNat < 18446744073709551616:=by rw [← h4];omega
    have H4:=Lib.hid h4
    have h6:=s[i].toNat_lt
    clear h1 h2 h3 h4
    generalize val (s.data.toList.take i)=v at *
    go_wp2
    go_round
    case rel=>exact ⟨i+1,by omega,by go_num,by rw [H4.out];go_num⟩
    case measure=>simp [intOf];omega
  · obtain rfl : i=s.size:=by omega
    go_wp2
    go_ret
    exact ⟨ret_int (by rw [HE.out]),rfl⟩
theorem r01_Small (s : ByteArray) (w : World) :
  Calls Tryz.prog 110 #[.string s] w fun e w'=>e=.returned (.tuple #[.int .u64 (natSmall s).1,.bool (natSmall s).2])∧w=w':=by
 cases hv : valid s
 · have HR:=Lib.hid (show natSmall s=(0,false) by unfold natSmall;simp [hv])
   go_enter Tryz.func110, Tryz.ntmps110
   go_wp2_with (go_at_call 70;refine (r01_Valid _ _).mono ?_;rintro e w' ⟨rfl,rfl⟩)
   go_ret2
   exact ⟨ret_ib (by rw [HR.out];rfl) (by rw [HR.out]),rfl⟩
 · by_cases h8 : s.size≤8
   · have HR:=Lib.hid (show natSmall s=(num s,true) by unfold natSmall;rw [hv];simp [h8])
     go_enter Tryz.func110, Tryz.ntmps110
     go_wp2_with (first | (go_at_call 70;refine (r01_Valid _ _).mono ?_;rintro e w' ⟨rfl,rfl⟩) | (go_at_call 130;refine (r01_U64 _ _ h8).mono ?_;rintro e w' ⟨rfl,rfl⟩))
     go_ret2
     exact ⟨ret_ib (by rw [HR.out]) (by rw [HR.out]),rfl⟩
   · have HR:=Lib.hid (show natSmall s=(0,false) by unfold natSmall;simp [h8])
     go_enter Tryz.func110, Tryz.ntmps110
     go_wp2_with (first | (go_at_call 70;refine (r01_Valid _ _).mono ?_;rintro e w' ⟨rfl,rfl⟩))
     go_ret2
     exact ⟨ret_ib (by rw [HR.out];rfl) (by rw [HR.out]),rfl⟩
theorem r02_ValidX (neg : Bool) (a : ByteArray) (hv : valid a=true) (hne : neg=true→a.size≠0) (w : World) :
  Calls Tryz.prog 109 #[.agg #[.bool neg,.string a]] w fun e w'=>e=.returned (.bool true)∧Below w.heap.size w w':=by
 have HVA:=Lib.hid (fun W=>r01_Valid a W)
 rw [hv] at HVA
 have HB0:=Lib.hid (Bx1.start (w:=w) (cs:=#[.bool neg,.string a]) (T:=129))
 cases neg with
 | true =>
   have b1 : a.toList.isEmpty=false:=isEmpty_no (hne rfl)
   clear hv hne
   go_enter Tryz.func109, Tryz.ntmps109
   go_wp2_with (go_at_call 70;(with_reducible refine (HVA.out _).mono ?_);rintro e w1 ⟨rfl,rfl⟩)
   go_ret
   exact ⟨rfl,HB0.out.bel⟩
 | false =>
   clear hv hne
   go_enter Tryz.func109, Tryz.ntmps109
   go_wp2_with (go_at_call 70;(with_reducible refine (HVA.out _).mono ?_);rintro e w1 ⟨rfl,rfl⟩)
   go_ret
   exact ⟨rfl,HB0.out.bel⟩
theorem r02_SmallX (neg : Bool) (a : ByteArray) (hv : valid a=true) (hne : neg=true→a.size≠0) (w : World) :
  Calls Tryz.prog 75 #[.agg #[.bool neg,.string a]] w fun e w'=>e=.returned (.tuple #[.int .i64 ((smI neg a).getD 0),.bool (smI neg a).isSome])∧Below w.heap.size w w':=by
 have HSM:=Lib.hid (fun W=>r01_Small a W)
 have HVA:=Lib.hid (fun W=>r02_ValidX neg a hv hne W)
 have HB0:=Lib.hid (Bx1.start (w:=w) (cs:=#[.bool neg,.string a]) (T:=129))
 by_cases h8 : a.size≤8
 · rw [natSmall_yes hv h8] at HSM
   have hlt:=natSmall_bound a h8
   have hn0 : neg=true→num a≠0:=fun hn e=>by
    have hb:=B_num hv
    rw [e] at hb
    exact hne hn (by rw [← hb];decide)
   unfold smI
   rw [if_pos h8]
   obtain ⟨n,hn⟩ : ∃ n,num a=n:=⟨_,rfl⟩
   rw [hn] at HSM hlt hn0 ⊢
   clear hv hne h8 hn
   cases neg with
   | true =>
     rw [if_pos rfl]
     have hn1:=hn0 rfl
     by_cases hl : n≤9223372036854775808
     · rw [if_pos hl,Option.getD_some,Option.isSome_some]
       obtain ⟨z,hz⟩ : ∃ z : Int,-(n : Int)=z:=⟨_,rfl⟩
       rw [hz]
       have d1 : decide ((n : Int)≤(9223372036854775808 : Int))=true:=decide_eq_true (by omega)
       have d2 : decide (n≤9223372036854775808)=true:=decide_eq_true hl
       obtain ⟨m,hm⟩ : ∃ m,n - 1=m:=⟨_,rfl⟩
       have hmi : (n : Int) - 1=(m : Int):=by omega
       have hm9 : m≤9223372036854775807:=by omega
       have hres : wrap64 (-wrap64 ((m : Nat) : Int) - 1)=z:=by unfold wrap64;omega
       have hres2 : wrap64 (-((m : Nat) : Int) - 1)=z:=by unfold wrap64;omega
       have hres3 : -((m : Nat) : Int) - 1=z:=by omega
       have HRES:=Lib.hid (And.intro hres (And.intro hres2 hres3))
       clear hres hres2 hres3 hz hm hn0 hlt
       go_enter Tryz.func75, Tryz.ntmps75
       go_wp2_with (first | (go_at_call 109;(with_reducible refine (HVA.out _).mono ?_);rintro e w2 ⟨rfl,hb2⟩;have H2:=Lib.hid (HB0.out.next hb2);have x0:=cell_of_row _ _ 0 _ _ _ H2.out.arg;have x1:=cell_of_row _ _ 1 _ _ _ H2.out.arg;clear hb2) | (go_at_call 110;(with_reducible refine (HSM.out _).mono ?_);rintro e w1 ⟨rfl,rfl⟩))
       go_ret2
       exact ⟨by first | (rw [← HRES.out.1];rfl) | (rw [← HRES.out.2.1];rfl) | (rw [← HRES.out.2.2];rfl),H2.out.bel⟩
     · rw [if_neg hl,Option.getD_none,Option.isSome_none]
       have d1 : decide ((n : Int)≤(9223372036854775808 : Int))=false:=decide_eq_false (by omega)
       have d2 : decide (n≤9223372036854775808)=false:=decide_eq_false hl
       clear hlt hn0
       go_enter Tryz.func75, Tryz.ntmps75
       go_wp2_with (first | (go_at_call 109;(with_reducible refine (HVA.out _).mono ?_);rintro e w2 ⟨rfl,hb2⟩;have H2:=Lib.hid (HB0.out.next hb2);have x0:=cell_of_row _ _ 0 _ _ _ H2.out.arg;have x1:=cell_of_row _ _ 1 _ _ _ H2.out.arg;clear hb2) | (go_at_call 110;(with_reducible refine (HSM.out _).mono ?_);rintro e w1 ⟨rfl,rfl⟩))
       go_ret2
       exact ⟨rfl,H2.out.bel⟩
   | false =>
     rw [if_neg (by decide)]
     by_cases hl : n≤9223372036854775807
     · rw [if_pos hl,Option.getD_some,Option.isSome_some]
       have d1 : decide ((n : Int) < (9223372036854775808 : Int))=true:=decide_eq_true (by omega)
       have d2 : decide (n < 9223372036854775808)=true:=decide_eq_true (by omega)
       clear hlt hn0
       go_enter Tryz.func75, Tryz.ntmps75
       go_wp2_with (first | (go_at_call 109;(with_reducible refine (HVA.out _).mono ?_);rintro e w2 ⟨rfl,hb2⟩;have H2:=Lib.hid (HB0.out.next hb2);have x0:=cell_of_row _ _ 0 _ _ _ H2.out.arg;have x1:=cell_of_row _ _ 1 _ _ _ H2.out.arg;clear hb2) | (go_at_call 110;(with_reducible refine (HSM.out _).mono ?_);rintro e w1 ⟨rfl,rfl⟩))
       go_ret2
       exact ⟨rfl,H2.out.bel⟩
     · rw [if_neg hl,Option.getD_none,Option.isSome_none]
       have d1 : decide ((n : Int) < (9223372036854775808 : Int))=false:=decide_eq_false (by omega)
       have d2 : decide (n < 9223372036854775808)=false:=decide_eq_false (by omega)
       clear hlt hn0
       go_enter Tryz.func75, Tryz.ntmps75
       go_wp2_with (first | (go_at_call 109;(with_reducible refine (HVA.out _).mono ?_);rintro e w2 ⟨rfl,hb2⟩;have H2:=Lib.hid (HB0.out.next hb2);have x0:=cell_of_row _ _ 0 _ _ _ H2.out.arg;have x1:=cell_of_row _ _ 1 _ _ _ H2.out.arg;clear hb2) | (go_at_call 110;(with_reducible refine (HSM.out _).mono ?_);rintro e w1 ⟨rfl,rfl⟩))
       go_ret2
       exact ⟨rfl,H2.out.bel⟩
 · rw [natSmall_no h8] at HSM
   have hs : smI neg a=none:=by unfold smI;rw [if_neg h8]
   rw [hs,Option.getD_none,Option.isSome_none]
   clear hv hne h8 hs
   go_enter Tryz.func75, Tryz.ntmps75
   go_wp2_with (first | (go_at_call 109;(with_reducible refine (HVA.out _).mono ?_);rintro e w2 ⟨rfl,hb2⟩;have H2:=Lib.hid (HB0.out.next hb2);have x0:=cell_of_row _ _ 0 _ _ _ H2.out.arg;have x1:=cell_of_row _ _ 1 _ _ _ H2.out.arg;clear hb2) | (go_at_call 110;(with_reducible refine (HSM.out _).mono ?_);rintro e w1 ⟨rfl,rfl⟩))
   go_ret2
   exact ⟨rfl,H2.out.bel⟩
def PanF (w : World) (rb : Nat) (o : Ending) (w' : World) : Prop:=o=.panicked [{ v:=.iface 67 (.agg #[]),recovered:=false }]∧w.grownBy w' (some rb)
theorem wal_nextF (k : Int) (l : Its) (A : Option Addr) (m c rb : Nat) (S : Nat→Prop) (w : World) (hm : l.len=m) (hno : nxt k l=none) (hb : RdI A m c rb w) (hsl : SlK w S A l) (hS : ∀ g,S g→g < w.heap.size∧g≠rb) :
  Calls Tryz.prog 69 #[.pointer (some ⟨rb,0,none⟩),.int .i64 k] w (PanF w rb):=by
 obtain ⟨x0,f0⟩:=hb.cells
 have hlt:=hb.lt
 cases l with
 | nil =>
   obtain rfl : m=0:=hm.symm
   clear hsl hno hm
   go_enter Tryz.func69, Tryz.ntmps69
   go_wp2_with fail
   exact ⟨rfl,rfl,gb_below ((Below.refl _ _).alloc (Nat.le_refl _) _)⟩
 | cons k' n t l r =>
   have hk : k'≠k:=by
    intro e
    subst e
    rw [nxt_cons] at hno
    cases hno
   obtain ⟨L,hrow,A1,c1,L',R,hL,hc1,hr1,hr2,hr3⟩:=hsl
   obtain ⟨g,off,rfl,hg,hcell⟩:=hrow (by simp [Its.len])
   have y0:=hcell 0 (.int .i64 k') (by rw [hL];rfl)
   rw [Nat.add_zero] at y0
   have hglt:=(hS g hg).1
   have hm0 : 0 < m:=by rw [← hm];simp [Its.len]
   have i1 : decide ((m : Int)=0)=false:=by simp;omega
   have i2 : ((m : Int)==0)=false:=by simp;omega
   have i3 : (0 : Int) < (m : Int):=by omega
   have i4 : (k' != k)=true:=by simp [hk]
   clear hno hr1 hr2 hr3 hc1 hL hcell hrow hm
   go_enter Tryz.func69, Tryz.ntmps69
   go_wp2_with fail
   exact ⟨rfl,rfl,gb_below ((Below.refl _ _).alloc (Nat.le_refl _) _)⟩
def StA (w : World) (rb : Nat) (S : Nat→Prop) (p : Option (ByteArray × Its)) (o : Ending) (w' : World) : Prop:=(∃ x r,p=some (x,r)∧StGot w rb S x r o w')∨(p=none∧PanF w rb o w')
theorem wal_textA (l : Its) (A : Option Addr) (m c rb : Nat) (S : Nat→Prop) (w : World) (hm : l.len=m) (hm2 : m≤100000) (hc : m≤c) (hb : RdI A m c rb w) (hsl : SlK w S A l) (hS : ∀ g,S g→g < w.heap.size∧g≠rb) :
  Calls Tryz.prog 27 #[.pointer (some ⟨rb,0,none⟩)] w (StA w rb S (rTxt l)):=by
 cases hx : nxt 1 l with
 | some p =>
   obtain ⟨y,r⟩:=p
   obtain ⟨_,e⟩:=nxt_some hx
   subst e
   have e2 : rTxt (.cons 1 y.2.1 y.2.2.1 y.2.2.2 r)=some (y.2.2.1,r):=by unfold rTxt;rw [hx]
   rw [e2]
   exact (wal_text y.2.1 y.2.2.1 y.2.2.2 r A m c rb S w hm hm2 hc hb hsl hS).mono fun o w' h=>.inl ⟨_,_,rfl,h⟩
 | none =>
   have e2 : rTxt l=none:=by unfold rTxt;rw [hx]
   rw [e2]
   have HN:=Lib.hid (wal_nextF 1 l A m c rb S w hm hx hb hsl hS)
   clear hx hm hm2 hc hb hsl hS e2
   go_enter Tryz.func27, Tryz.ntmps27
   go_wp2_with (go_at_call 69;(with_reducible refine HN.out.mono ?_);rintro o w5 ⟨rfl,hg⟩)
   exact ⟨rfl,.inr ⟨rfl,rfl,hg⟩⟩
theorem wal_natA (l : Its) (A : Option Addr) (m c rb : Nat) (S : Nat→Prop) (w : World) (hm : l.len=m) (hm2 : m≤100000) (hc : m≤c) (hb : RdI A m c rb w) (hsl : SlK w S A l) (hS : ∀ g,S g→g < w.heap.size∧g≠rb) :
  Calls Tryz.prog 58 #[.pointer (some ⟨rb,0,none⟩)] w (StA w rb S (rNat l)):=by
 cases hx : nxt 0 l with
 | some p =>
   obtain ⟨y,r⟩:=p
   obtain ⟨_,e⟩:=nxt_some hx
   subst e
   have e2 : rNat (.cons 0 y.2.1 y.2.2.1 y.2.2.2 r)=some (y.2.1,r):=by unfold rNat;rw [hx]
   rw [e2]
   exact (wal_nat y.2.1 y.2.2.1 y.2.2.2 r A m c rb S w hm hm2 hc hb hsl hS).mono fun o w' h=>.inl ⟨_,_,rfl,h⟩
 | none =>
   have e2 : rNat l=none:=by unfold rNat;rw [hx]
   rw [e2]
   have HN:=Lib.hid (wal_nextF 0 l A m c rb S w hm hx hb hsl hS)
   clear hx hm hm2 hc hb hsl hS e2
   go_enter Tryz.func58, Tryz.ntmps58
   go_wp2_with (go_at_call 69;(with_reducible refine HN.out.mono ?_);rintro o w5 ⟨rfl,hg⟩)
   exact ⟨rfl,.inr ⟨rfl,rfl,hg⟩⟩
def LsA (w : World) (rb : Nat) (S : Nat→Prop) (p : Option (Its × Its)) (o : Ending) (w' : World) : Prop:=(∃ b r,p=some (b,r)∧NxGot w rb S 2 ⟨#[]⟩ ⟨#[]⟩ b r o w')∨(p=none∧PanF w rb o w')
theorem wal_listA (l : Its) (A : Option Addr) (m c rb : Nat) (S : Nat→Prop) (w : World) (hok : okI l=true) (hm : l.len=m) (hm2 : m≤100000) (hc : m≤c) (hb : RdI A m c rb w) (hsl : SlK w S A l) (hS : ∀ g,S g→g < w.heap.size∧g≠rb) :
  Calls Tryz.prog 69 #[.pointer (some ⟨rb,0,none⟩),.int .i64 2] w (LsA w rb S (rLst l)):=by
 cases hr : rLst l with
 | some p =>
   obtain ⟨b,r⟩:=p
   obtain ⟨e,_⟩:=rLst_some hok hr
   subst e
   exact (wal_next 2 ⟨#[]⟩ ⟨#[]⟩ b r A m c rb S w hm hm2 hc hb hsl hS).mono fun o w' h=>.inl ⟨_,_,rfl,h⟩
 | none =>
   refine (wal_nextF 2 l A m c rb S w hm ?_ hb hsl hS).mono fun o w' h=>.inr ⟨rfl,h⟩
   cases hx : nxt 2 l with
   | none=>rfl
   | some p=>unfold rLst at hr;rw [hx] at hr;cases hr
def NbA (w : World) (rb : Nat) (S : Nat→Prop) (p : Option (Int × Its)) (o : Ending) (w' : World) : Prop:=(∃ z r,p=some (z,r)∧NbGot w rb S z r o w')∨(p=none∧PanF w rb o w')
theorem wal_numberA (l : Its) (A : Option Addr) (m c rb : Nat) (S : Nat→Prop) (w : World) (hok : okI l=true) (hsz : l.size≤100000) (hm : l.len=m) (hm2 : m≤100000) (hc : m≤c) (hb : RdI A m c rb w) (hsl : SlK w S A l) (hS : ∀ g,S g→g < w.heap.size∧g≠rb) :
  Calls Tryz.prog 64 #[.pointer (some ⟨rb,0,none⟩)] w (NbA w rb S (rNum l)):=by
 cases hr : rNum l with
 | some p =>
   obtain ⟨z,r⟩:=p
   obtain ⟨e,_,hz⟩:=rNum_some hok hr
   subst e
   exact (wal_number z hz ⟨#[]⟩ ⟨#[]⟩ rfl rfl r A m c rb S w hm hm2 hc hb hsl hS).mono fun o w' h=>.inl ⟨_,_,rfl,h⟩
 | none =>
   have HN:=Lib.hid (wal_listA l A m c rb S w hok hm hm2 hc hb hsl hS)
   unfold rNum at hr
   cases hl : rLst l with
   | none =>
     rw [hl] at HN
     clear hr hl hok hsz hm hm2 hc hb hsl hS
     go_enter Tryz.func64, Tryz.ntmps64
     go_wp2_with (go_at_call 69;(with_reducible refine HN.out.mono ?_);rintro o w5 (⟨b,r,e,_⟩ | ⟨_,rfl,hg⟩);(cases e))
     exact ⟨rfl,.inr ⟨rfl,rfl,hg⟩⟩
   | some p =>
     obtain ⟨b,r⟩:=p
     rw [hl] at HN hr
     obtain ⟨e,hor,hob⟩:=rLst_some hok hl
     have hbs : b.size≤100000:=by rw [e] at hsz;simp only [Its.size] at hsz;omega
     have HTI:=Lib.hid (fun A1 c1 W (h : SlI W S A1 b) (hS : ∀ g,S g→g < W.heap.size)=>enc_ToIntX b A1 _ c1 S W rfl hbs hob h hS)
     have HS:=Lib.hid hS
     dsimp only at hr
     unfold LsA NxGot at HN
     have hno : numO b=none:=by
      cases h : numO b with
      | none=>rfl
      | some z=>rw [h] at hr;cases hr
     unfold numO at hno
     have HOB:=Lib.hid hob
     clear hr hl hok hsz hm hm2 hc hb hsl hS e hor hob hbs
     cases ht : toI b with
     | none =>
       rw [ht] at HTI
       unfold TiGot toB toA at HTI
       dsimp only at HTI
       have HSM:=Lib.hid (fun W=>int_SmallX false ⟨#[]⟩ (by decide) (fun h=>by cases h) W)
       have hs0 : smI false ⟨#[]⟩=some 0:=by decide
       rw [hs0,Option.getD_some,Option.isSome_some] at HSM
       clear hno ht hs0
       go_enter Tryz.func64, Tryz.ntmps64
       go_wp2_with (first
        | (go_at_call 69;(with_reducible refine HN.out.mono ?_);rintro o w5 (⟨b',r',e,A1,c1,A2,c2,rfl,h1,h2,h3,h4,h5,h6⟩ | ⟨e,_⟩)<;>cases e;have HI5:=Lib.hid (HTI.out A1 c1 w5 h3.to (fun g hg=>Nat.lt_of_lt_of_le (HS.out g hg).1 h6.size));have HG:=Lib.hid h6;clear h1 h2 h3 h4 h5 h6)
        | (go_at_call 99;(with_reducible refine HI5.out.mono ?_);rintro o w6 ⟨rfl,hb6⟩;have HB6:=Lib.hid hb6;clear hb6)
        | (go_at_call 100;(with_reducible refine (HSM.out _).mono ?_);rintro o w7 ⟨rfl,hb7⟩;have HB7:=Lib.hid hb7;clear hb7))
       exact ⟨rfl,.inr ⟨rfl,rfl,HG.out.trans (gb_below (below2 (HB6.out.alloc HB6.out.size _) HB7.out))⟩⟩
     | some q =>
       obtain ⟨neg,a⟩:=q
       rw [ht] at HTI hno
       dsimp only at hno
       obtain ⟨-,hva,hna⟩:=toI_some HOB.out ht
       have HSM:=Lib.hid (fun W=>int_SmallX neg a hva hna W)
       rw [hno] at HSM
       unfold TiGot toB toA at HTI
       dsimp only at HTI
       clear hno ht hva hna
       go_enter Tryz.func64, Tryz.ntmps64
       go_wp2_with (first
        | (go_at_call 69;(with_reducible refine HN.out.mono ?_);rintro o w5 (⟨b',r',e,A1,c1,A2,c2,rfl,h1,h2,h3,h4,h5,h6⟩ | ⟨e,_⟩)<;>cases e;have HI5:=Lib.hid (HTI.out A1 c1 w5 h3.to (fun g hg=>Nat.lt_of_lt_of_le (HS.out g hg).1 h6.size));have HG:=Lib.hid h6;clear h1 h2 h3 h4 h5 h6)
        | (go_at_call 99;(with_reducible refine HI5.out.mono ?_);rintro o w6 ⟨rfl,hb6⟩;have HB6:=Lib.hid hb6;clear hb6)
        | (go_at_call 100;(with_reducible refine (HSM.out _).mono ?_);rintro o w7 ⟨rfl,hb7⟩;have HB7:=Lib.hid hb7;clear hb7))
       exact ⟨rfl,.inr ⟨rfl,rfl,HG.out.trans (gb_below (below2 (HB6.out.alloc HB6.out.size _) HB7.out))⟩⟩
def EnA (w : World) (rb : Nat) (p : Option Unit) (o : Ending) (w' : World) : Prop:=(p=some ()∧o=.returned (.tuple #[])∧w=w')∨(p=none∧PanF w rb o w')
theorem wal_endA (l : Its) (A : Option Addr) (m c rb : Nat) (w : World) (hm : l.len=m) (hb : RdI A m c rb w) :
  Calls Tryz.prog 59 #[.pointer (some ⟨rb,0,none⟩)] w (EnA w rb (rEnd l)):=by
 unfold rEnd
 rw [hm]
 by_cases h0 : m=0
 · subst h0
   rw [if_pos rfl]
   exact (wal_end A c rb w hb).mono fun o w' h=>.inl ⟨rfl,h⟩
 · rw [if_neg h0]
   obtain ⟨x0,f0⟩:=hb.cells
   have i1 : decide ((0 : Int) < (m : Int))=true:=decide_eq_true (by omega)
   have i2 : (0 : Int) < (m : Int):=by omega
   have i3 : 0 < m:=by omega
   clear hm hb
   go_enter Tryz.func59, Tryz.ntmps59
   go_wp2_with fail
   exact ⟨rfl,.inr ⟨rfl,rfl,gb_refl⟩⟩
def RdQ (A : Option Addr) (n c : Nat) (bad : Bool) (rb : Nat) (w : World) : Prop:=w.heap[rb]?=some (.cells #[.slice A n c,.bool bad] 82 (0,0))
section
variable {A : Option Addr} {n c rb : Nat} {bad : Bool} {w w' : World}
theorem RdQ.cells (h : RdQ A n c bad rb w) : w.cell? ⟨rb,0,none⟩=some (.slice A n c)∧w.frozen? ⟨rb,0,none⟩=false∧w.cell? ⟨rb,1,none⟩=some (.bool bad)∧w.frozen? ⟨rb,1,none⟩=false:=⟨cell_of_row w _ 0 _ _ _ h,frozen_of_row w _ 0 _ _ h,cell_of_row w _ 1 _ _ _ h,frozen_of_row w _ 1 _ _ h⟩
theorem RdQ.lt (h : RdQ A n c bad rb w) : rb < w.heap.size:=(Array.getElem?_eq_some_iff.1 h).1
theorem RdQ.keep (h : RdQ A n c bad rb w) (hb : Below w.heap.size w w') : RdQ A n c bad rb w':=(hb.block _ h.lt).trans h
theorem RdQ.put (h : RdQ A n c bad rb w) (A' : Option Addr) (n' c' : Nat) : RdQ A' n' c' bad rb (w.setCell ⟨rb,0,none⟩ (.slice A' n' c')):=heap_setCell_same w rb 0 _ _ _ h
theorem RdQ.putB (h : RdQ A n c bad rb w) (b : Bool) : RdQ A n c b rb (w.setCell ⟨rb,1,none⟩ (.bool b)):=heap_setCell_same w rb 1 _ _ _ h
end
def InQ (w : World) (rb : Nat) (S : Nat→Prop) (l : Its) (bad : Bool) : Prop:=∃ A c,l.len≤c∧SlK w S A l∧RdQ A l.len c bad rb w
theorem InQ.lt {w : World} {rb : Nat} {S : Nat→Prop} {l : Its} {bad : Bool} (h : InQ w rb S l bad) : rb < w.heap.size:=by
 obtain ⟨A,c,_,_,h⟩:=h
 exact h.lt
theorem InQ.gb {w w' : World} {rb : Nat} {S : Nat→Prop} {l : Its} {bad : Bool} {row : Option Nat} (h : InQ w rb S l bad) (hg : w.grownBy w' row) (hS : ∀ g,S g→g < w.heap.size∧some g≠row) (hr : some rb≠row) : InQ w' rb S l bad:=by
 obtain ⟨A,c,h1,h2,h3⟩:=h
 exact ⟨A,c,h1,h2.keep (fun p hp=>hg.cell_far p (hS _ hp).1 (hS _ hp).2),(hg.block _ h3.lt hr).trans h3⟩
def zeroI : Its.One:=(0,⟨#[]⟩,⟨#[]⟩,.nil)
def nxQ (k : Int) (l : Its) (bad : Bool) : Its.One × Its × Bool:=match nxt k l with | none=>(zeroI,l,true) | some p=>(p.1,p.2,bad)
def NqGot (w : World) (rb : Nat) (S : Nat→Prop) (p : Its.One × Its × Bool) (o : Ending) (w' : World) : Prop :=
 ∃ A c,o=.returned (.agg #[.int .i64 p.1.1,.string p.1.2.1,.string p.1.2.2.1,.slice A p.1.2.2.2.len c])∧p.1.2.2.2.len≤c∧SlK w' S A p.1.2.2.2∧InQ w' rb S p.2.1 p.2.2∧w.grownBy w' (some rb)
theorem next_ok (k : Int) (n t : ByteArray) (l r : Its) (A : Option Addr) (m c rb : Nat) (bad : Bool) (S : Nat→Prop) (w : World) (hm : r.len+1=m) (hm2 : m≤100000) (hc : m≤c) (hb : RdQ A m c bad rb w) (hsl : SlK w S A (.cons k n t l r)) (hS : ∀ g,S g→g < w.heap.size∧g≠rb) :
  Calls Tryz.prog 30 #[.pointer (some ⟨rb,0,none⟩),.int .i64 k] w (NqGot w rb S ((k,n,t,l),r,bad)):=by
 obtain ⟨L,hrow,A1,c1,L',R,hL,hc1,hr1,hr2,hr3⟩:=hsl
 obtain ⟨g,off,rfl,hg,hcell⟩:=hrow (by simp [Its.len])
 have y0:=hcell 0 (.int .i64 k) (by rw [hL];rfl)
 have y1:=hcell 1 (.string n) (by rw [hL];rfl)
 have y2:=hcell 2 (.string t) (by rw [hL];rfl)
 have y3:=hcell 3 (.slice A1 l.len c1) (by rw [hL];rfl)
 rw [Nat.add_zero] at y0
 have HB:=Lib.hid hb
 have hlt:=hb.lt
 have hglt:=(hS g hg).1
 have HS:=Lib.hid hS
 have HL1 : Hid (SlK w S A1 l):=Lib.hid ⟨L',hr1,hr2⟩
 have hrr : SlK w S (some ⟨g,off+4,none⟩) r:=⟨R,fun h0=>⟨g,off+4,rfl,hg,fun j u hj=>by
  have:=hcell (4+j) u (by rw [hL];simpa [Nat.add_comm] using hj)
  rwa [← Nat.add_assoc] at this⟩,hr3⟩
 have HRR:=Lib.hid hrr
 clear hrr
 have HC1:=Lib.hid hc1
 obtain ⟨x0,f0,-,-⟩:=hb.cells
 have i1 : decide ((m : Int)=0)=false:=by simp;omega
 have i2 : ((m : Int)==0)=false:=by simp;omega
 have i3 : (0 : Int) < (m : Int):=by omega
 have i4 : 0 < m:=by omega
 have i5 : 1≤m:=by omega
 have i6 : (1 : Int)≤(m : Int):=by omega
 have HM:=Lib.hid (And.intro hm hc)
 clear hb hS hr1 hr2 hr3 hc1 hL hcell hrow hm
 go_enter Tryz.func30, Tryz.ntmps30
 go_upto_region 6 with fail
 obtain ⟨A2,hA2⟩ : ∃ A2,(if c=1 then (some ⟨g,off,none⟩ : Option Addr) else some ⟨g,off+4,none⟩)=A2:=⟨_,rfl⟩
 rw [hA2]
 have HRR2 : Hid (SlK w S A2 r):=Lib.hid (by
  by_cases h1 : c=1
  · have h0 : r.len=0:=by have:=HM.out;omega
    obtain ⟨R',hr4,hr5⟩:=HRR.out
    exact ⟨R',fun hx=>absurd hx (by omega),hr5⟩
  · rw [← hA2,if_neg h1]
    exact HRR.out)
 clear hA2
 have hb5 : RdQ A2 (m - 1) (c - 1) bad rb (((w.setCell ⟨rb,0,none⟩ (.slice A2 (m - 1) (c - 1))).alloc (.cells #[.int .i64 0,.string ⟨#[]⟩,.string ⟨#[]⟩,.slice none 0 0] 63)).alloc (.cells #[.int .i64 k,.string n,.string t,.slice A1 l.len c1] 63)):=((HB.out.put A2 (m - 1) (c - 1)).keep ((Below.refl _ _).alloc (Nat.le_refl _) _)).keep ((Below.refl _ _).alloc (Nat.le_refl _) _)
 have hg5 : w.grownBy (((w.setCell ⟨rb,0,none⟩ (.slice A2 (m - 1) (c - 1))).alloc (.cells #[.int .i64 0,.string ⟨#[]⟩,.string ⟨#[]⟩,.slice none 0 0] 63)).alloc (.cells #[.int .i64 k,.string n,.string t,.slice A1 l.len c1] 63)) (some rb):=(gb_set.trans (gb_below ((Below.refl _ _).alloc (Nat.le_refl _) _))).trans (gb_below ((Below.refl _ _).alloc (Nat.le_refl _) _))
 have h2b:=two_boxes (w.setCell ⟨rb,0,none⟩ (.slice A2 (m - 1) (c - 1))) (.cells #[.int .i64 0,.string ⟨#[]⟩,.string ⟨#[]⟩,.slice none 0 0] 63) (.cells #[.int .i64 k,.string n,.string t,.slice A1 l.len c1] 63)
 rw [World.size_setCell] at h2b
 have HB5:=Lib.hid hb5
 have HG5:=Lib.hid hg5
 have H2B:=Lib.hid h2b
 clear hb5 hg5 h2b x0 f0
 obtain ⟨w5,hw5⟩ : ∃ w5,(((w.setCell ⟨rb,0,none⟩ (.slice A2 (m - 1) (c - 1))).alloc (.cells #[.int .i64 0,.string ⟨#[]⟩,.string ⟨#[]⟩,.slice none 0 0] 63)).alloc (.cells #[.int .i64 k,.string n,.string t,.slice A1 l.len c1] 63))=w5:=⟨_,rfl⟩
 rw [hw5] at HB5 HG5 H2B ⊢
 clear hw5
 have t0:=cell_of_row _ _ 0 _ _ _ H2B.out.2
 have t1:=cell_of_row _ _ 1 _ _ _ H2B.out.2
 have t2:=cell_of_row _ _ 2 _ _ _ H2B.out.2
 have t3:=cell_of_row _ _ 3 _ _ _ H2B.out.2
 have r0:=cell_of_row _ _ 0 _ _ _ H2B.out.1
 have r1:=cell_of_row _ _ 1 _ _ _ H2B.out.1
 have r2:=cell_of_row _ _ 2 _ _ _ H2B.out.1
 have r3:=cell_of_row _ _ 3 _ _ _ H2B.out.1
 have g0:=frozen_of_row _ _ 0 _ _ H2B.out.1
 have g1:=frozen_of_row _ _ 1 _ _ H2B.out.1
 have g2:=frozen_of_row _ _ 2 _ _ H2B.out.1
 have g3:=frozen_of_row _ _ 3 _ _ H2B.out.1
 go_wp2_with fail
 refine bodyPost_ret (v:=.agg #[.int .i64 k,.string n,.string t,.slice A1 l.len c1]) (by simp [results,Tryz.results30,go_sem,r0,r1,r2,r3]) rfl ?_
 have hm1 : r.len=m - 1:=by have:=HM.out;omega
 have hgr : w.grownBy ((((w5.setCell ⟨w.heap.size,0,none⟩ (.int .i64 k)).setCell ⟨w.heap.size,1,none⟩ (.string n)).setCell ⟨w.heap.size,2,none⟩ (.string t)).setCell ⟨w.heap.size,3,none⟩ (.slice A1 l.len c1)) (some rb) :=
  gb_set_new (gb_set_new (gb_set_new (gb_set_new HG5.out (Nat.le_refl _)) (Nat.le_refl _)) (Nat.le_refl _)) (Nat.le_refl _)
 refine ⟨A1,c1,rfl,HC1.out,HL1.out.keep (fun p hp=>gb_cell hgr (HS.out _ hp).1 (HS.out _ hp).2),⟨A2,c - 1,(by have:=HM.out;show r.len≤c - 1;omega),HRR2.out.keep (fun p hp=>gb_cell hgr (HS.out _ hp).1 (HS.out _ hp).2),?_⟩,hgr⟩
 show RdQ A2 r.len (c - 1) bad rb _
 rw [hm1]
 have hne : rb≠w.heap.size:=by omega
 unfold RdQ
 rw [heap_setCell_other _ _ _ _ hne,heap_setCell_other _ _ _ _ hne,heap_setCell_other _ _ _ _ hne,heap_setCell_other _ _ _ _ hne]
 exact HB5.out
theorem next_bad (k : Int) (l : Its) (A : Option Addr) (m c rb : Nat) (bad : Bool) (S : Nat→Prop) (w : World) (hm : l.len=m) (hc : m≤c) (hno : nxt k l=none) (hb : RdQ A m c bad rb w) (hsl : SlK w S A l) (hS : ∀ g,S g→g < w.heap.size∧g≠rb) :
  Calls Tryz.prog 30 #[.pointer (some ⟨rb,0,none⟩),.int .i64 k] w (NqGot w rb S (zeroI,l,true)):=by
 obtain ⟨x0,f0,x1,f1⟩:=hb.cells
 have hlt:=hb.lt
 have HB:=Lib.hid hb
 have HSL:=Lib.hid hsl
 have HS:=Lib.hid hS
 have HMC:=Lib.hid (And.intro hm hc)
 have hfin : NqGot w rb S (zeroI,l,true) (.returned (.agg #[.int .i64 0,.string ⟨#[]⟩,.string ⟨#[]⟩,.slice none 0 0])) ((w.setCell ⟨rb,1,none⟩ (.bool true)).alloc (.cells #[.int .i64 0,.string ⟨#[]⟩,.string ⟨#[]⟩,.slice none 0 0] 63)):=by
  have hal : Below (w.setCell ⟨rb,1,none⟩ (.bool true)).heap.size (w.setCell ⟨rb,1,none⟩ (.bool true)) ((w.setCell ⟨rb,1,none⟩ (.bool true)).alloc (.cells #[.int .i64 0,.string ⟨#[]⟩,.string ⟨#[]⟩,.slice none 0 0] 63)):=(Below.refl _ _).alloc (Nat.le_refl _) _
  have hg : w.grownBy ((w.setCell ⟨rb,1,none⟩ (.bool true)).alloc (.cells #[.int .i64 0,.string ⟨#[]⟩,.string ⟨#[]⟩,.slice none 0 0] 63)) (some rb):=gb_set.trans (gb_below hal)
  refine ⟨none,0,rfl,Nat.le_refl _,SlK.nil_,⟨A,c,(by show l.len≤c;omega),hsl.keep (fun p hp=>gb_cell hg (hS _ hp).1 (hS _ hp).2),?_⟩,hg⟩
  show RdQ A l.len c true rb _
  rw [hm]
  exact (hb.putB true).keep hal
 have HFIN:=Lib.hid hfin
 clear hfin
 cases l with
 | nil =>
   obtain rfl : m=0:=hm.symm
   clear hsl hno hm hS hb
   go_enter Tryz.func30, Tryz.ntmps30
   go_wp2_with fail
   refine bodyPost_ret (v:=.agg #[.int .i64 0,.string ⟨#[]⟩,.string ⟨#[]⟩,.slice none 0 0]) (by simp [results,Tryz.results30,go_sem]) rfl ?_
   exact HFIN.out
 | cons k' n t l r =>
   have hk : k'≠k:=by
    intro e
    subst e
    rw [nxt_cons] at hno
    cases hno
   obtain ⟨L,hrow,A1,c1,L',R,hL,hc1,hr1,hr2,hr3⟩:=hsl
   obtain ⟨g,off,rfl,hg,hcell⟩:=hrow (by simp [Its.len])
   have y0:=hcell 0 (.int .i64 k') (by rw [hL];rfl)
   rw [Nat.add_zero] at y0
   have hglt:=(hS g hg).1
   have hm0 : 0 < m:=by rw [← hm];simp [Its.len]
   have i1 : decide ((m : Int)=0)=false:=by simp;omega
   have i2 : ((m : Int)==0)=false:=by simp;omega
   have i3 : (0 : Int) < (m : Int):=by omega
   have i4 : (k' != k)=true:=by simp [hk]
   clear hno hr1 hr2 hr3 hc1 hL hcell hrow hm hS hb
   go_enter Tryz.func30, Tryz.ntmps30
   go_wp2_with fail
   refine bodyPost_ret (v:=.agg #[.int .i64 0,.string ⟨#[]⟩,.string ⟨#[]⟩,.slice none 0 0]) (by simp [results,Tryz.results30,go_sem]) rfl ?_
   exact HFIN.out
theorem r56_next (k : Int) (l : Its) (bad : Bool) (rb : Nat) (S : Nat→Prop) (w : World) (hin : InQ w rb S l bad) (hl : l.len≤100000) (hS : ∀ g,S g→g < w.heap.size∧g≠rb) :
  Calls Tryz.prog 30 #[.pointer (some ⟨rb,0,none⟩),.int .i64 k] w (NqGot w rb S (nxQ k l bad)):=by
 obtain ⟨A,c,h1,h2,h3⟩:=hin
 unfold nxQ
 cases hx : nxt k l with
 | none=>exact next_bad k l A _ c rb bad S w rfl h1 hx h3 h2 hS
 | some p =>
   obtain ⟨y,r⟩:=p
   obtain ⟨e1,e⟩:=nxt_some hx
   subst e
   have:=next_ok k y.2.1 y.2.2.1 y.2.2.2 r A _ c rb bad S w rfl hl h1 h3 h2 hS
   dsimp only
   rw [show y=(k,y.2.1,y.2.2.1,y.2.2.2) by rw [← e1]]
   exact this
theorem r56_wrong (l : Its) (bad : Bool) (rb : Nat) (S : Nat→Prop) (w : World) (hin : InQ w rb S l bad) : Calls Tryz.prog 31 #[.pointer (some ⟨rb,0,none⟩)] w fun o w'=>o=.returned (.bool (bad||decide (0 < l.len)))∧w=w':=by
 obtain ⟨A,c,h1,h2,h3⟩:=hin
 obtain ⟨x0,f0,x1,f1⟩:=h3.cells
 clear h1 h2 h3
 obtain ⟨m,hm⟩ : ∃ m,l.len=m:=⟨_,rfl⟩
 rw [hm] at x0 ⊢
 clear hm
 cases bad with
 | true =>
   go_enter Tryz.func31, Tryz.ntmps31
   go_wp2_with fail
   go_ret
   exact ⟨rfl,rfl⟩
 | false =>
   rw [Bool.false_or]
   by_cases h0 : 0 < m
   · have i1 : decide ((0 : Int) < (m : Int))=true:=decide_eq_true (by omega)
     rw [decide_eq_true h0]
     go_enter Tryz.func31, Tryz.ntmps31
     go_wp2_with fail
     go_ret
     exact ⟨rfl,rfl⟩
   · have i1 : decide ((0 : Int) < (m : Int))=false:=decide_eq_false (by omega)
     rw [decide_eq_false h0]
     go_enter Tryz.func31, Tryz.ntmps31
     go_wp2_with fail
     go_ret
     exact ⟨rfl,rfl⟩
def Rs.of (sec : ByteArray) (qs : List Az) (hs : List Hz) (us : List Uz) : Rs:=⟨0,sec,qs,hs,us,⟨#[]⟩,0⟩
def askW (sec : ByteArray) (qs : List Az) (hs : List Hz) (us : List Uz) (a : Az) : Rs:=if qs.any (isA a.2.2.1)=true then Rs.err 8 else Rs.of sec (qs++[a]) hs us
def storeW (sec : ByteArray) (qs : List Az) (hs : List Hz) (us : List Uz) (nc : ByteArray) (x : Hz) : Rs :=
 match qs.find? (isA nc) with
 | none=>Rs.err 9
 | some y=>if badS x y=true then Rs.err 1 else Rs.of sec (qs.filter (fun y=>!isA nc y)) (hs++[x]) us
def renewW (sec : ByteArray) (qs : List Az) (hs : List Hz) (us : List Uz) (k : Int) (x : Hz) : Rs :=
 if k < 0∨(hs.length : Int)≤k then Rs.err 2 else
 match hs[k.toNat]? with
 | none=>Rs.err 2
 | some y=>if sameH y x=true then (if x.ep < y.ep then Rs.err 21 else Rs.of sec qs (hs.set k.toNat x) us) else Rs.err 1
noncomputable def useW (sec : ByteArray) (qs : List Az) (hs : List Hz) (us : List Uz) (u : Uz) : Rs:=Rs.of sec qs hs (putU u us)
noncomputable def spendW (sec : ByteArray) (qs : List Az) (hs : List Hz) (us : List Uz) (u : Uz) : Rs:=if u.2.2 < 1∨u.2.2 - 1≠cntU (isU u.1 u.2.1) us then Rs.err 26 else useW sec qs hs us u
noncomputable def countW (sec : ByteArray) (qs : List Az) (hs : List Hz) (us : List Uz) (u : Uz) : Rs:=if u.2.2 < 1 then Rs.err 26 else if 0≤idxU (isU u.1 u.2.1) us 0 then Rs.err 8 else useW sec qs hs us u
def keepW (sec : ByteArray) (qs : List Az) (hs : List Hz) (us : List Uz) (x : Hz) : Rs:=Rs.of sec qs (hs++[x]) us
def GotN (w : World) (R : Rs) (o : Ending) (w' : World) : Prop :=
 ∃ A1 c1 A2 c2 A3 c3,o=.returned (.tuple #[.agg #[.string R.sec,.slice A1 R.qs.length c1,.slice A2 R.hs.length c2,.slice A3 R.us.length c3],.int .i64 R.z])∧WalM w' (fun g=>w.heap.size≤g∧g < w'.heap.size) R.qs R.hs R.us A1 A2 A3∧Below w.heap.size w w'
theorem gotN_err {w w' : World} {z : Int} {o : Ending} (h : ChErr w z o w') : GotN w (Rs.err z) o w':=⟨none,0,none,0,none,0,h.1,WalM.nil_,h.2⟩
theorem gotN_of {w w' : World} {sec : ByteArray} {qs : List Az} {hs : List Hz} {us : List Uz} {o : Ending} (h : ChGot w sec qs hs us o w') : GotN w (Rs.of sec qs hs us) o w':=by
 obtain ⟨A1,n1,c1,A2,n2,c2,A3,n3,c3,e,rfl,rfl,rfl,hm,hb⟩:=h
 exact ⟨A1,c1,A2,c2,A3,c3,e,hm,hb⟩
section
variable (sec : ByteArray) (qs : List Az) (hs : List Hz) (us : List Uz) (Aa Ah Au : Option Addr) (na ca nh ch nu cu : Nat) (S : Nat→Prop) (w : World) (hq : qs.length=na) (hn : hs.length=nh) (hu : us.length=nu) (hma : na < 4096) (hmh : nh < 4096) (hmu : nu < 4096) (hatt : ∀ x ∈ hs,x.att.length≤100000) (h : WalM w S qs hs us Aa Ah Au) (hS : ∀ g,S g→g < w.heap.size)
include hq hn hu hma hmh hmu hatt h hS
theorem ask_got (i s n x b : ByteArray) : Calls Tryz.prog 61 #[.agg #[.string sec,.slice Aa na ca,.slice Ah nh ch,.slice Au nu cu],.agg #[.string i,.string s,.string n,.string x,.string b]] w (GotN w (askW sec qs hs us (i,s,n,x,b))):=by
 unfold askW
 cases ha : qs.any (isA n) with
 | true =>
   rw [if_pos rfl]
   exact (wal_ask_twice sec qs hs us Aa Ah Au na ca nh ch nu cu i s n x b S w hq hma ha h hS).mono fun o w' g=>gotN_err g
 | false =>
   rw [if_neg (by decide)]
   exact (wal_ask_ok sec qs hs us Aa Ah Au na ca nh ch nu cu i s n x b S w hq hn hu hma (by omega) (by omega) hatt ha h hS).mono fun o w' g=>gotN_of g
theorem store_got (nc : ByteArray) (x : Hz) (A : Option Addr) (n c : Nat) (hva : validA [] qs=true) (hnx : x.att.length=n) (hmn : n≤100000) (hrow : RowC w S A n (cellsN x.att)) :
  Calls Tryz.prog 63 #[.agg #[.string sec,.slice Aa na ca,.slice Ah nh ch,.slice Au nu cu],.string nc,valH x A n c] w (GotN w (storeW sec qs hs us nc x)):=by
 unfold storeW
 cases ha : qs.any (isA nc) with
 | false =>
   have hi:=idxA_none ha 0
   have hf : qs.find? (isA nc)=none:=by
    rw [List.find?_eq_none]
    intro y hy
    rw [List.any_eq_false] at ha
    exact ha y hy
   rw [hf]
   exact (wal_store_none sec qs Aa Ah Au na ca nh ch nu cu nc x A n c S w hq (by omega) (by rw [hi];decide) h.a hS).mono fun o w' g=>gotN_err g
 | true =>
   obtain ⟨j,y,hidx,hy,_,hfd⟩:=idxA_some ha 0
   rw [Nat.zero_add] at hidx
   rw [hfd]
   obtain ⟨yi,ys,yn,yx,yb⟩:=y
   refine (wal_store_at sec qs hs us Aa Ah Au na ca nh ch nu cu nc x A n c j yi ys yn yx yb S w hq hn hu (by omega) hmh (by omega) hatt hidx hy hnx hmn hrow h hS).mono fun o w' g=>?_
   rcases g with ⟨hb,g⟩ | ⟨hb,g⟩
   · dsimp only
     rw [hb,if_pos rfl]
     exact gotN_err g
   · dsimp only
     rw [hb,if_neg (by decide),← erase_filter qs [] nc 0 j hva (by rw [hidx,Nat.zero_add])]
     exact gotN_of g
theorem renew_got (k : Int) (x : Hz) (A : Option Addr) (n c : Nat) (hnx : x.att.length=n) (hmn : n≤100000) (hrow : RowC w S A n (cellsN x.att)) :
  Calls Tryz.prog 65 #[.agg #[.string sec,.slice Aa na ca,.slice Ah nh ch,.slice Au nu cu],.int .i64 k,valH x A n c] w (GotN w (renewW sec qs hs us k x)):=by
 unfold renewW
 by_cases hk : k < 0∨(hs.length : Int)≤k
 · rw [if_pos hk]
   rw [hn] at hk
   exact (wal_renew_range sec Aa Ah Au na ca nh ch nu cu k x A n c w hk).mono fun o w' g=>gotN_err g
 · rw [if_neg hk]
   obtain ⟨j,rfl⟩ : ∃ j : Nat,k=(j : Int):=⟨k.toNat,by omega⟩
   rw [Int.toNat_natCast]
   have hj : j < hs.length:=by omega
   have hy:=List.getElem?_eq_getElem hj
   rw [hy]
   dsimp only
   cases hsame : sameH hs[j] x with
   | false =>
     rw [if_neg (by decide)]
     exact (wal_renew_other sec qs hs us Aa Ah Au na ca nh ch nu cu j _ x A n c S w hq hn hu (by omega) (by omega) (by omega) hatt hnx hmn hy hsame hrow h hS).mono fun o w' g=>gotN_err g
   | true =>
     rw [if_pos rfl]
     by_cases hep : x.ep < hs[j].ep
     · rw [if_pos hep]
       exact (wal_renew_epoch sec qs hs us Aa Ah Au na ca nh ch nu cu j _ x A n c S w hq hn hu (by omega) (by omega) (by omega) hatt hnx hmn hy hsame hep hrow h hS).mono fun o w' g=>gotN_err g
     · rw [if_neg hep]
       exact (wal_renew_ok sec qs hs us Aa Ah Au na ca nh ch nu cu j _ x A n c S w hq hn hu (by omega) (by omega) (by omega) hatt hnx hmn hy hsame (by omega) hrow h hS).mono fun o w' g=>gotN_of g
theorem use_got (s : ByteArray) (p c : Int) : Calls Tryz.prog 52 #[.agg #[.string sec,.slice Aa na ca,.slice Ah nh ch,.slice Au nu cu],.agg #[.string s,.int .i64 p,.int .i64 c]] w (GotN w (useW sec qs hs us (s,p,c))):=by
 refine (wal_use sec qs hs us Aa Ah Au na ca nh ch nu cu s p c S w hq hn hu (by omega) (by omega) hmu hatt h hS).mono ?_
 rintro o w' ⟨A1,c1,A2,c2,A3,n3,c3,rfl,rfl,hm,hb⟩
 refine ⟨A1,c1,A2,c2,A3,c3,?_,hm,hb⟩
 unfold useW Rs.of
 rw [hq,hn]
end
def EffO (w : World) (rb : Nat) (R : Rs) (o : Ending) (w' : World) : Prop :=
 (∃ A1 c1 A2 c2 A3 c3,o=.returned (.tuple #[.agg #[.string R.sec,.slice A1 R.qs.length c1,.slice A2 R.hs.length c2,.slice A3 R.us.length c3],.int .i64 R.z])∧WalM w' (fun g=>w.heap.size≤g∧g < w'.heap.size) R.qs R.hs R.us A1 A2 A3∧w.grownBy w' (some rb))∨(R=Rs.err 4∧PanF w rb o w')
def EfY (w : World) (rb : Nat) (S S0 : Nat→Prop) (sec : ByteArray) (qs : List Az) (hs : List Hz) (us : List Uz) (Aa : Option Addr) (na ca : Nat) (Ah : Option Addr) (nh ch : Nat) (Au : Option Addr) (nu cu : Nat) (l : Its) (W : World) : Prop :=
 EfX w rb S S0 sec qs hs us Aa na ca Ah nh ch Au nu cu l W∧okI l=true∧l.size≤10000
section
variable {w W w' : World} {rb : Nat} {S S0 : Nat→Prop} {sec : ByteArray} {qs : List Az} {hs : List Hz} {us : List Uz} {Aa Ah Au : Option Addr} {na ca nh ch nu cu : Nat} {l l' : Its}
theorem EfY.below (h : EfY w rb S S0 sec qs hs us Aa na ca Ah nh ch Au nu cu l W) (hb : Below W.heap.size W w') : EfY w rb S S0 sec qs hs us Aa na ca Ah nh ch Au nu cu l w':=⟨h.1.below hb,h.2⟩
theorem EfY.fin (h : EfY w rb S S0 sec qs hs us Aa na ca Ah nh ch Au nu cu l W) {R : Rs} {A1 A2 A3 : Option Addr} {c1 c2 c3 : Nat}
  (hm : WalM w' (fun g=>W.heap.size≤g∧g < w'.heap.size) R.qs R.hs R.us A1 A2 A3) (hb : Below W.heap.size W w') (v0 v1 v2 v3 : Value) :
  EffO w rb R (.returned (.tuple #[.agg #[.string R.sec,.slice A1 R.qs.length c1,.slice A2 R.hs.length c2,.slice A3 R.us.length c3],.int .i64 R.z])) ((((w'.setCell ⟨w.heap.size+1,0,none⟩ v0).setCell ⟨w.heap.size+1,1,none⟩ v1).setCell ⟨w.heap.size+1,2,none⟩ v2).setCell ⟨w.heap.size+1,3,none⟩ v3):=by
 have hz:=h.1.size
 have hg : w'.grownBy ((((w'.setCell ⟨w.heap.size+1,0,none⟩ v0).setCell ⟨w.heap.size+1,1,none⟩ v1).setCell ⟨w.heap.size+1,2,none⟩ v2).setCell ⟨w.heap.size+1,3,none⟩ v3) (some (w.heap.size+1)):=((gb_set.trans gb_set).trans gb_set).trans gb_set
 refine .inl ⟨A1,c1,A2,c2,A3,c3,rfl,(hm.keep (fun p hp=>hg.cell_far p hp.2 (fun e=>by injection e;have:=hp.1;omega))).mono (fun g hg'=>⟨by have:=hg'.1;omega,Nat.lt_of_lt_of_le hg'.2 hg.size⟩),?_⟩
 exact gb_new (h.1.gr.trans (gb_below hb)) hg (fun k e=>by injection e;omega)
end
theorem size_tail {k : Int} {n t : ByteArray} {b r : Its} {N : Nat} (h : (Its.cons k n t b r).size≤N) : b.size≤N∧r.size≤N:=by
 simp only [Its.size] at h
 omega
section
variable (w : World) (rb : Nat) (S S0 : Nat→Prop) (sec : ByteArray) (qs : List Az) (hs : List Hz) (us : List Uz) (Aa Ah Au : Option Addr) (na ca nh ch nu cu : Nat)
def EyS (p : Option (ByteArray × Its)) (o : Ending) (w' : World) : Prop:=(∃ t r,p=some (t,r)∧o=.returned (.string t)∧EfY w rb S S0 sec qs hs us Aa na ca Ah nh ch Au nu cu r w')∨(p=none∧PanF w rb o w')
def EyN (p : Option (Int × Its)) (o : Ending) (w' : World) : Prop:=(∃ z r,p=some (z,r)∧o=.returned (.int .i64 z)∧EfY w rb S S0 sec qs hs us Aa na ca Ah nh ch Au nu cu r w')∨(p=none∧PanF w rb o w')
def EyE (p : Option Unit) (W : World) (o : Ending) (w' : World) : Prop:=(p=some ()∧o=.returned (.tuple #[])∧W=w')∨(p=none∧PanF w rb o w')
theorem ey_text (l : Its) (W : World) (h : EfY w rb S S0 sec qs hs us Aa na ca Ah nh ch Au nu cu l W) :
  Calls Tryz.prog 27 #[.pointer (some ⟨rb,0,none⟩)] W (EyS w rb S S0 sec qs hs us Aa Ah Au na ca nh ch nu cu (rTxt l)):=by
 obtain ⟨hx,hok,hsz⟩:=h
 obtain ⟨A,c,h1,h2,h3⟩:=hx.inn
 have hl:=Nat.le_trans (Its.len_size l) hsz
 refine (wal_textA l A _ c rb S W rfl (by omega) h1 h3 h2 hx.far).mono ?_
 rintro o w' (⟨t,r,e,A2,c2,rfl,k2,k4,k5,k6⟩ | ⟨e,rfl,hg⟩)
 · obtain ⟨e2,ho⟩:=rTxt_some hok e
   exact .inl ⟨t,r,e,rfl,hx.gb k6 ⟨A2,c2,k2,k4,k5⟩,ho,(size_tail (e2 ▸ hsz)).2⟩
 · exact .inr ⟨e,rfl,hx.gr.trans hg⟩
theorem ey_nat (l : Its) (W : World) (h : EfY w rb S S0 sec qs hs us Aa na ca Ah nh ch Au nu cu l W) :
  Calls Tryz.prog 58 #[.pointer (some ⟨rb,0,none⟩)] W (EyS w rb S S0 sec qs hs us Aa Ah Au na ca nh ch nu cu (rNat l)):=by
 obtain ⟨hx,hok,hsz⟩:=h
 obtain ⟨A,c,h1,h2,h3⟩:=hx.inn
 have hl:=Nat.le_trans (Its.len_size l) hsz
 refine (wal_natA l A _ c rb S W rfl (by omega) h1 h3 h2 hx.far).mono ?_
 rintro o w' (⟨t,r,e,A2,c2,rfl,k2,k4,k5,k6⟩ | ⟨e,rfl,hg⟩)
 · obtain ⟨e2,ho,_⟩:=rNat_some hok e
   exact .inl ⟨t,r,e,rfl,hx.gb k6 ⟨A2,c2,k2,k4,k5⟩,ho,(size_tail (e2 ▸ hsz)).2⟩
 · exact .inr ⟨e,rfl,hx.gr.trans hg⟩
theorem ey_number (l : Its) (W : World) (h : EfY w rb S S0 sec qs hs us Aa na ca Ah nh ch Au nu cu l W) :
  Calls Tryz.prog 64 #[.pointer (some ⟨rb,0,none⟩)] W (EyN w rb S S0 sec qs hs us Aa Ah Au na ca nh ch nu cu (rNum l)):=by
 obtain ⟨hx,hok,hsz⟩:=h
 obtain ⟨A,c,h1,h2,h3⟩:=hx.inn
 have hl:=Nat.le_trans (Its.len_size l) hsz
 refine (wal_numberA l A _ c rb S W hok (by omega) rfl (by omega) h1 h3 h2 hx.far).mono ?_
 rintro o w' (⟨z,r,e,A2,c2,rfl,k2,k4,k5,k6⟩ | ⟨e,rfl,hg⟩)
 · obtain ⟨e2,ho,_⟩:=rNum_some hok e
   exact .inl ⟨z,r,e,rfl,hx.gb k6 ⟨A2,c2,k2,k4,k5⟩,ho,(size_tail (e2 ▸ hsz)).2⟩
 · exact .inr ⟨e,rfl,hx.gr.trans hg⟩
theorem ey_end (l : Its) (W : World) (h : EfY w rb S S0 sec qs hs us Aa na ca Ah nh ch Au nu cu l W) :
  Calls Tryz.prog 59 #[.pointer (some ⟨rb,0,none⟩)] W (EyE w rb (rEnd l) W):=by
 obtain ⟨hx,hok,hsz⟩:=h
 obtain ⟨A,c,h1,h2,h3⟩:=hx.inn
 refine (wal_endA l A _ c rb W rfl h3).mono ?_
 rintro o w' (⟨e,rfl,rfl⟩ | ⟨e,rfl,hg⟩)
 · exact .inl ⟨e,rfl,rfl⟩
 · exact .inr ⟨e,rfl,hx.gr.trans hg⟩
end
end Go.Proofs.YtjhlddlocpkhkaaGreat
namespace Go.Proofs.YtjhlddlocpkhkaaGreat
open Go.RowKit
set_option maxRecDepth 100000
set_option linter.unusedVariables false
set_option maxHeartbeats 16000000
def nbQ (l : Its) (bad : Bool) : Int × Its × Bool:=match rLst l with | none=>(0,l,true) | some p=>((numO p.1).getD 0,p.2,bad||!(numO p.1).isSome)
def NbQ (w : World) (rb : Nat) (S : Nat→Prop) (p : Int × Its × Bool) (o : Ending) (w' : World) : Prop:=o=.returned (.int .i64 p.1)∧InQ w' rb S p.2.1 p.2.2∧w.grownBy w' (some rb)
theorem number_walk (rb : Nat) (S : Nat→Prop) (w : World) (bad : Bool) (r l1 : Its) (ik : Int) (neg ok fits : Bool) (a : ByteArray) (z : Int) (hS : ∀ g,S g→g < w.heap.size∧g≠rb)
  (hN : Calls Tryz.prog 30 #[.pointer (some ⟨rb,0,none⟩),.int .i64 2] w (NqGot w rb S ((ik,⟨#[]⟩,⟨#[]⟩,l1),r,bad)))
  (hTI : ∀ (A : Option Addr) (c : Nat) (W : World),SlI W S A l1→(∀ g,S g→g < W.heap.size)→Calls Tryz.prog 74 #[.agg #[.int .i64 ik,.string ⟨#[]⟩,.string ⟨#[]⟩,.slice A l1.len c]] W (TiGot W neg a ok))
  (hSM : ∀ W,Calls Tryz.prog 75 #[.agg #[.bool neg,.string a]] W fun e w'=>e=.returned (.tuple #[.int .i64 z,.bool fits])∧Below W.heap.size W w') :
  Calls Tryz.prog 37 #[.pointer (some ⟨rb,0,none⟩)] w (NbQ w rb S (z,r,bad||!ok||!fits)):=by
 have HN:=Lib.hid hN
 have HTI:=Lib.hid hTI
 have HSM:=Lib.hid hSM
 have HS:=Lib.hid hS
 unfold NqGot at HN
 unfold TiGot at HTI
 dsimp only at HN
 obtain ⟨m,hm⟩ : ∃ m,l1.len=m:=⟨_,rfl⟩
 rw [hm] at HN HTI
 clear hN hTI hSM hS hm
 cases bad<;>cases ok<;>cases fits
 all_goals
  go_enter Tryz.func37, Tryz.ntmps37
  go_upto_region 3 with (first
   | (go_at_call 30;(with_reducible refine HN.out.mono ?_);rintro o w1 ⟨A1,c1,rfl,h1,h2,h3,h4⟩;have HI1:=Lib.hid (HTI.out A1 c1 w1 h2.to (fun g hg=>Nat.lt_of_lt_of_le (HS.out g hg).1 h4.size));have HQ1:=Lib.hid h3;have HG1:=Lib.hid h4;clear h1 h2 h3 h4)
   | (go_at_call 74;(with_reducible refine HI1.out.mono ?_);rintro o w2 ⟨rfl,hb2⟩;have HB2:=Lib.hid (hb2.alloc hb2.size (.cells #[.bool neg,.string a] 129));have HX2:=Lib.hid (heap_alloc_new w2 (.cells #[.bool neg,.string a] 129));have x0:=cell_of_row _ _ 0 _ _ _ HX2.out;have x1:=cell_of_row _ _ 1 _ _ _ HX2.out;clear hb2)
   | (go_at_call 75;(with_reducible refine (HSM.out _).mono ?_);rintro o w3 ⟨rfl,hb3⟩;have HB3:=Lib.hid (below2 HB2.out hb3);clear hb3 x0 x1))
  obtain ⟨A3,c3,q1,q2,q3⟩:=HQ1.out
  have hq3:=q3.keep HB3.out
  have HQ3:=Lib.hid (And.intro q1 (And.intro (q2.below HB3.out (fun g hg=>Nat.lt_of_lt_of_le (HS.out g hg).1 HG1.out.size)) hq3))
  obtain ⟨y0,f0,y1,f1⟩:=hq3.cells
  clear q1 q2 q3 hq3
  go_wp2_with fail
  go_ret
  have hg : ∀ v : Bool,w3.grownBy (w3.setCell ⟨rb,1,none⟩ (.bool v)) (some rb):=fun v=>gb_set
  refine ⟨rfl,⟨A3,c3,HQ3.out.1,HQ3.out.2.1.keep (fun p hp=>gb_cell (hg _) (Nat.lt_of_lt_of_le (HS.out _ hp).1 (Nat.le_trans HG1.out.size HB3.out.size)) (HS.out _ hp).2),HQ3.out.2.2.putB _⟩,(HG1.out.trans (gb_below HB3.out)).trans gb_set⟩
theorem nx_none {l : Its} {bad : Bool} (hok : okI l=true) (h : rLst l=none) : nxQ 2 l bad=(zeroI,l,true):=by
 unfold nxQ
 cases hx : nxt 2 l with
 | none=>rfl
 | some p=>unfold rLst at h;rw [hx] at h;cases h
theorem nx_some {l b r : Its} {bad : Bool} (hok : okI l=true) (h : rLst l=some (b,r)) : nxQ 2 l bad=((2,⟨#[]⟩,⟨#[]⟩,b),r,bad):=by
 obtain ⟨e,_⟩:=rLst_some hok h
 subst e
 unfold nxQ
 rw [nxt_cons]
theorem r56_number (l : Its) (bad : Bool) (rb : Nat) (S : Nat→Prop) (w : World) (hin : InQ w rb S l bad) (hok : okI l=true) (hsz : l.size≤10000) (hS : ∀ g,S g→g < w.heap.size∧g≠rb) :
  Calls Tryz.prog 37 #[.pointer (some ⟨rb,0,none⟩)] w (NbQ w rb S (nbQ l bad)):=by
 have hN:=r56_next 2 l bad rb S w hin (by have:=Its.len_size l;omega) hS
 unfold nbQ
 have hs0 : ∀ W,Calls Tryz.prog 75 #[.agg #[.bool false,.string ⟨#[]⟩]] W fun e w'=>e=.returned (.tuple #[.int .i64 0,.bool true])∧Below W.heap.size W w':=fun W=>by
  have h:=r02_SmallX false ⟨#[]⟩ (by decide) (fun h=>by cases h) W
  rw [show smI false ⟨#[]⟩=some 0 by decide] at h
  exact h
 cases hl : rLst l with
 | none =>
   rw [nx_none hok hl] at hN
   exact number_walk rb S w true l .nil 0 false false true ⟨#[]⟩ 0 hS hN (fun A c W h h2=>r08_ToIntN A c W) hs0
 | some p =>
   obtain ⟨b,r⟩:=p
   rw [nx_some hok hl] at hN
   obtain ⟨e,hor,hob⟩:=rLst_some hok hl
   have hbs : b.size≤100000:=by rw [e] at hsz;simp only [Its.size] at hsz;omega
   dsimp only
   have hT:=fun (A : Option Addr) (c : Nat) (W : World) (h : SlI W S A b) (h2 : ∀ g,S g→g < W.heap.size)=>r08_ToIntX b A _ c S W rfl hbs hob h h2
   unfold numO
   cases ht : toI b with
   | none =>
     rw [ht] at hT
     have:=number_walk rb S w bad r b 2 false false true ⟨#[]⟩ 0 hS hN (fun A c W h h2=>hT A c W h h2) hs0
     simpa using this
   | some q =>
     obtain ⟨neg,a⟩:=q
     rw [ht] at hT
     obtain ⟨_,hva,hna⟩:=toI_some hob ht
     have:=number_walk rb S w bad r b 2 neg true (smI neg a).isSome a ((smI neg a).getD 0) hS hN (fun A c W h h2=>hT A c W h h2) (fun W=>r02_SmallX neg a hva hna W)
     simpa using this
end Go.Proofs.YtjhlddlocpkhkaaGreat
