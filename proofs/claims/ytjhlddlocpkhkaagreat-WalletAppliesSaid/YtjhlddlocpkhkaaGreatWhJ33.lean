/- Wallet: the law file's small. Wallet: the law file's few. -/
import Derived.Test.YtjhlddlocpkhkaaGreatWhJ28
namespace Go.Proofs.YtjhlddlocpkhkaaGreat
open Go.RowKit
set_option maxRecDepth 100000
set_option linter.unusedVariables false
set_option maxHeartbeats 8000000
theorem sumN_take {l : List ByteArray} {k : Nat} {y : ByteArray} (h : l[k]?=some y) : sumN (l.take (k+1))=sumN (l.take k)+y.size:=by
 induction l generalizing k with
 | nil=>simp at h
 | cons z r ih =>
   cases k with
   | zero=>simp at h;subst h;simp [sumN]
   | succ k =>
     simp only [List.getElem?_cons_succ] at h
     simp only [List.take_succ_cons,sumN,ih h]
     omega
theorem sumN_bound {l : List ByteArray} {r : Nat} (h : ∀ y ∈ l,y.size≤r) : sumN l≤l.length*r:=by
 induction l with
 | nil=>simp [sumN]
 | cons y t ih =>
   have h1:=h y (by simp)
   have h2:=ih (fun z hz=>h z (by simp [hz]))
   simp only [sumN,List.length_cons,Nat.add_mul,Nat.one_mul]
   omega
def BndH (r : Nat) (x : Hz) : Prop:=x.iss.size≤r∧x.sch.size≤r∧x.a.size≤r∧x.e.size≤r∧x.v.size≤r∧x.wit.size≤r∧∀ y ∈ x.att,y.size≤r
theorem wr64 (z : Int) (h : -9223372036854775808≤z∧z≤9223372036854775807) : IntKind.i64.wrap z=z:=by rw [IntKind.wrap_i64];omega
def smallB (x : Hz) : Bool:=decide (x.att.length≤10∧sizeH x≤600)
theorem law56_small (x : Hz) (A : Option Addr) (n c : Nat) (S : Nat→Prop) (w : World) (r : Nat) (hr : r≤140737488355328) (hb : BndH r x) (hn : x.att.length=n) (hrow : RowC w S A n (cellsN x.att)) (hS : ∀ g,S g→g < w.heap.size) :
  Calls Tryz.prog 15 #[valH x A n c] w fun e w'=>e=.returned (.bool (smallB x))∧Below w.heap.size w w':=by
 unfold valH
 obtain ⟨b1,b2,b3,b4,b5,b6,b7⟩:=hb
 by_cases h10 : 10 < n
 · have d1 : decide ((10 : Int) < (n : Int))=true:=decide_eq_true (by omega)
   have HF : Hid (smallB x=false):=Lib.hid (decide_eq_false (by omega))
   clear hrow hS hr b1 b2 b3 b4 b5 b6 b7
   go_enter Tryz.func15, Tryz.ntmps15
   go_wp2_with fail
   go_ret
   exact ⟨by rw [HF.out];rfl,((Below.refl _ _).alloc (Nat.le_refl _) _).alloc (by simp) _⟩
 · have d1 : decide ((10 : Int) < (n : Int))=false:=decide_eq_false (by omega)
   obtain ⟨s2,hs2⟩ : ∃ s,x.iss.size+x.sch.size=s:=⟨_,rfl⟩
   obtain ⟨s3,hs3⟩ : ∃ s,s2+x.a.size=s:=⟨_,rfl⟩
   obtain ⟨s4,hs4⟩ : ∃ s,s3+x.e.size=s:=⟨_,rfl⟩
   obtain ⟨s5,hs5⟩ : ∃ s,s4+x.v.size=s:=⟨_,rfl⟩
   obtain ⟨s6,hs6⟩ : ∃ s,s5+x.wit.size=s:=⟨_,rfl⟩
   have HSZ : Hid (sizeH x=s6+sumN x.att):=Lib.hid (by unfold sizeH;omega)
   have HBD : Hid (s6≤6*140737488355328∧(∀ y ∈ x.att,y.size≤140737488355328)∧n≤10):=Lib.hid ⟨by omega,fun y hy=>Nat.le_trans (b7 y hy) hr,by omega⟩
   have e2 : IntKind.i64.wrap ((x.iss.size : Int)+(x.sch.size : Int))=(s2 : Int):=by rw [wr64 _ (by omega)];omega
   have e3 : IntKind.i64.wrap ((s2 : Int)+(x.a.size : Int))=(s3 : Int):=by rw [wr64 _ (by omega)];omega
   have e4 : IntKind.i64.wrap ((s3 : Int)+(x.e.size : Int))=(s4 : Int):=by rw [wr64 _ (by omega)];omega
   have e5 : IntKind.i64.wrap ((s4 : Int)+(x.v.size : Int))=(s5 : Int):=by rw [wr64 _ (by omega)];omega
   have e6 : IntKind.i64.wrap ((s5 : Int)+(x.wit.size : Int))=(s6 : Int):=by rw [wr64 _ (by omega)];omega
   have HN:=Lib.hid hn
   have HR:=Lib.hid (And.intro hrow hS)
   clear hrow hS hr b1 b2 b3 b4 b5 b6 b7 hs2 hs3 hs4 hs5 hs6 h10
   go_enter Tryz.func15, Tryz.ntmps15
   go_upto_region 4 with fail
   go_wp2_with fail
   go_loopw [4,42] (fun vn v wr=>∃ k : Nat,v=.int .i64 k∧k≤n∧vn=.int .i64 ((s6+sumN (x.att.take k) : Nat) : Int)∧Below w.heap.size w wr) (fun _ v _=>n - (intOf v).toNat)
   case atStart=>exact ⟨0,rfl,Nat.zero_le _,by simp [sumN],((Below.refl _ _).alloc (Nat.le_refl _) _).alloc (by simp) _⟩
   case round =>
    obtain ⟨k,rfl,hk,rfl,hb⟩:=hrel
    obtain ⟨T,hT⟩ : ∃ T,s6+sumN (x.att.take k)=T:=⟨_,rfl⟩
    rw [hT]
    have HBE:=Lib.hid hb
    by_cases hlt : k < n
    · obtain ⟨y,hy⟩ : ∃ y,x.att[k]?=some y:=⟨x.att[k]'(by rw [HN.out];exact hlt),List.getElem?_eq_getElem _⟩
      have hyc : (cellsN x.att)[k]?=some (.string y):=by unfold cellsN;rw [List.getElem?_map,hy];rfl
      obtain ⟨g,off,rfl,hsg,hc⟩:=HR.out.1 (by omega)
      have z0:=(hb.cell (p:=⟨g,off+k,none⟩) (HR.out.2 _ hsg)).trans (hc _ _ hyc)
      have HT1 : Hid (s6+sumN (x.att.take (k+1))=T+y.size):=Lib.hid (by rw [sumN_take hy];omega)
      have hle : sumN (x.att.take k)≤10*140737488355328:=Nat.le_trans (sumN_bound (fun z hz=>HBD.out.2.1 z (List.mem_of_mem_take hz))) (Nat.mul_le_mul_right _ (by rw [List.length_take];have:=HBD.out.2.2;omega))
      have hyl:=HBD.out.2.1 y (List.mem_of_getElem? hy)
      have e7 : IntKind.i64.wrap ((T : Int)+(y.size : Int))=((T+y.size : Nat) : Int):=by rw [wr64 _ (by have:=HBD.out.1;omega)];omega
      have HLT:=Lib.hid hlt
      have k2 : (k : Int) < (n : Int):=by omega
      have k4 : k < 10:=by have:=HBD.out.2.2;omega
      clear hb hy hyc hc hsg hlt hk hT hle hyl HR
      go_wp2_with fail
      go_roundw
      case rel=>exact ⟨k+1,by go_num,HLT.out,by rw [HT1.out];simp,HBE.out⟩
      case measure=>have:=HLT.out;simp only [intOf];omega
    · obtain rfl : n=k:=by omega
      have HT1 : Hid (sizeH x=T):=Lib.hid (by rw [HSZ.out,← hT,List.take_of_length_le (by rw [HN.out];exact Nat.le_refl _)])
      by_cases h6 : T≤600
      · have d2 : decide ((T : Int)≤600)=true:=decide_eq_true (by omega)
        have HF : Hid (smallB x=true):=Lib.hid (decide_eq_true ⟨by rw [HN.out];exact HBD.out.2.2,by rw [HT1.out];exact h6⟩)
        clear hb hlt hk hT HR
        go_wp2_with fail
        go_ret
        exact ⟨by rw [HF.out];simp,HBE.out⟩
      · have d2 : decide ((T : Int)≤600)=false:=decide_eq_false (by omega)
        have HF : Hid (smallB x=false):=Lib.hid (decide_eq_false (fun h=>h6 (by rw [← HT1.out];exact h.2)))
        clear hb hlt hk hT HR
        go_wp2_with fail
        go_ret
        exact ⟨by rw [HF.out];simp,HBE.out⟩
def BndA (r : Nat) (x : Az) : Prop:=x.1.size≤r∧x.2.1.size≤r∧x.2.2.1.size≤r∧x.2.2.2.1.size≤r∧x.2.2.2.2.size≤r
def sizeA (x : Az) : Nat:=x.1.size+x.2.1.size+x.2.2.1.size+x.2.2.2.1.size+x.2.2.2.2.size
def sumA : List Az→Nat
 | []=>0
 | x::r=>sizeA x+sumA r
def sumU : List Uz→Nat
 | []=>0
 | x::r=>x.1.size+sumU r
theorem sumA_take {l : List Az} {k : Nat} {y : Az} (h : l[k]?=some y) : sumA (l.take (k+1))=sumA (l.take k)+sizeA y:=by
 induction l generalizing k with
 | nil=>simp at h
 | cons z r ih =>
   cases k with
   | zero=>simp at h;subst h;simp [sumA]
   | succ k =>
     simp only [List.getElem?_cons_succ] at h
     simp only [List.take_succ_cons,sumA,ih h]
     omega
theorem sumU_take {l : List Uz} {k : Nat} {y : Uz} (h : l[k]?=some y) : sumU (l.take (k+1))=sumU (l.take k)+y.1.size:=by
 induction l generalizing k with
 | nil=>simp at h
 | cons z r ih =>
   cases k with
   | zero=>simp at h;subst h;simp [sumU]
   | succ k =>
     simp only [List.getElem?_cons_succ] at h
     simp only [List.take_succ_cons,sumU,ih h]
     omega
theorem sumA_bound {l : List Az} {r : Nat} (h : ∀ y ∈ l,BndA r y) : sumA l≤l.length*(5*r):=by
 induction l with
 | nil=>simp [sumA]
 | cons y t ih =>
   obtain ⟨h1,h2,h3,h4,h5⟩:=h y (by simp)
   have h6:=ih (fun z hz=>h z (by simp [hz]))
   simp only [sumA,sizeA,List.length_cons,Nat.add_mul,Nat.one_mul]
   omega
theorem sumU_bound {l : List Uz} {r : Nat} (h : ∀ y ∈ l,y.1.size≤r) : sumU l≤l.length*r:=by
 induction l with
 | nil=>simp [sumU]
 | cons y t ih =>
   have h1:=h y (by simp)
   have h6:=ih (fun z hz=>h z (by simp [hz]))
   simp only [sumU,List.length_cons,Nat.add_mul,Nat.one_mul]
   omega
def fewB (sec : ByteArray) (qs : List Az) (hs : List Hz) (us : List Uz) : Bool:=decide (qs.length≤8∧hs.length≤8∧us.length≤8∧sec.size≤200∧sumA qs+sumU us≤1200)&&hs.all smallB
theorem law56_few1 (x : Hz) (A : Option Addr) (n c : Nat) (S : Nat→Prop) (w : World) (r : Nat) (hr : r≤140737488355328) (hb : BndH r x) (hn : x.att.length=n) (hrow : RowC w S A n (cellsN x.att)) (hS : ∀ g,S g→g < w.heap.size) :
  Calls Tryz.prog 14 #[valH x A n c] w fun e w'=>e=.returned (.bool (!smallB x))∧Below w.heap.size w w':=by
 have H:=Lib.hid (fun W (hbw : Below w.heap.size w W)=>law56_small x A n c S W r hr hb hn (hrow.keep (fun p hp=>hbw.cell (hS _ hp))) (fun g hg=>Nat.lt_of_lt_of_le (hS g hg) hbw.size))
 unfold valH at H ⊢
 have HB : Hid (Below w.heap.size w (w.alloc (.cells #[.string x.iss,.string x.sch,.int .i64 x.ver,.slice A n c,.string x.a,.string x.e,.string x.v,.int .i64 x.ep,.string x.wit] 47))):=Lib.hid ((Below.refl _ _).alloc (Nat.le_refl _) _)
 clear hr hb hn hrow hS
 go_enter Tryz.func14, Tryz.ntmps14
 go_wp2_with (go_at_call 15;(with_reducible refine (H.out _ HB.out).mono ?_);rintro e w1 ⟨rfl,hb1⟩;have HB1:=Lib.hid (below2 HB.out hb1);clear hb1)
 go_ret
 exact ⟨by simp,HB1.out⟩
def idxH (f : Hz→Bool) : List Hz→Nat→Int
 | [],_=>-1
 | x::r,k=>if f x=true then (k : Int) else idxH f r (k+1)
theorem dropH {hs : List Hz} {k : Nat} {x : Hz} (h : hs[k]?=some x) : hs.drop k=x::hs.drop (k+1):=by
 obtain ⟨h1,h2⟩:=List.getElem?_eq_some_iff.1 h
 rw [List.drop_eq_getElem_cons h1,h2]
theorem idxH_none {f : Hz→Bool} {hs : List Hz} (h : hs.any f=false) (k : Nat) : idxH f hs k=-1:=by
 induction hs generalizing k with
 | nil=>rfl
 | cons x r ih =>
   rw [List.any_cons,Bool.or_eq_false_iff] at h
   unfold idxH
   rw [h.1]
   simpa using ih h.2 (k+1)
theorem idxH_some {f : Hz→Bool} {hs : List Hz} (h : hs.any f=true) (k : Nat) : ∃ i : Nat,idxH f hs k=(i : Int):=by
 induction hs generalizing k with
 | nil=>cases h
 | cons y r ih =>
   unfold idxH
   cases hy : f y
   · rw [List.any_cons,hy,Bool.false_or] at h
     obtain ⟨i,h1⟩:=ih h (k+1)
     exact ⟨i,by simpa using h1⟩
   · exact ⟨k,by simp⟩
theorem index_few (hs : List Hz) (A : Option Addr) (n c : Nat) (S : Nat→Prop) (w : World) (r : Nat) (hr : r≤140737488355328) (hbn : ∀ x ∈ hs,BndH r x) (hn : hs.length=n) (hm : n≤100000) (h : SlH w S A hs) (hS : ∀ g,S g→g < w.heap.size) :
  Calls Tryz.prog 50 #[.slice A n c,.func (.func 14) #[] #[]] w fun e w'=>e=.returned (.int .i64 (idxH (fun x=>!smallB x) hs 0))∧Below w.heap.size w w':=by
 have HL:=Lib.hid (And.intro hS (And.intro hn (And.intro h (And.intro hr hbn))))
 obtain ⟨R,hR⟩ : ∃ R,idxH (fun x=>!smallB x) hs 0=R:=⟨_,rfl⟩
 have HR:=Lib.hid hR
 rw [hR]
 clear h hS hn hR hr hbn
 go_enter Tryz.func50, Tryz.ntmps50
 go_wp2_with fail
 go_loopw [8] (fun v wr=>∃ k : Nat,k≤n∧v=.int .i64 k∧idxH (fun x=>!smallB x) (hs.drop k) k=R∧Below w.heap.size w wr) (fun v _=>n - (intOf v).toNat)
 case atStart=>exact ⟨0,by omega,rfl,HR.out,Below.refl _ _⟩
 case round =>
  obtain ⟨k,hk,rfl,hx,hf⟩:=hrel
  have HX:=Lib.hid hx
  have HFD:=Lib.hid hf
  clear hx
  by_cases hlt : k < n
  · obtain ⟨x,hu⟩ : ∃ u,hs[k]?=some u:=⟨hs[k]'(by rw [HL.out.2.1];exact hlt),List.getElem?_eq_getElem _⟩
    obtain ⟨g,off,A1,c1,rfl,hsg,hr1,hc1⟩:=SlH.at_ HL.out.2.2.1 hu
    have y0 : wr.cell? ⟨g,off+k*9,none⟩=some (.string x.iss):=(hf.cell (HL.out.1 _ hsg)).trans (hc1 0 _ rfl)
    have y1 : wr.cell? ⟨g,off+k*9+1,none⟩=some (.string x.sch):=(hf.cell (HL.out.1 _ hsg)).trans (hc1 1 _ rfl)
    have y2 : wr.cell? ⟨g,off+k*9+2,none⟩=some (.int .i64 x.ver):=(hf.cell (HL.out.1 _ hsg)).trans (hc1 2 _ rfl)
    have y3 : wr.cell? ⟨g,off+k*9+3,none⟩=some (.slice A1 x.att.length c1):=(hf.cell (HL.out.1 _ hsg)).trans (hc1 3 _ rfl)
    have y4 : wr.cell? ⟨g,off+k*9+4,none⟩=some (.string x.a):=(hf.cell (HL.out.1 _ hsg)).trans (hc1 4 _ rfl)
    have y5 : wr.cell? ⟨g,off+k*9+5,none⟩=some (.string x.e):=(hf.cell (HL.out.1 _ hsg)).trans (hc1 5 _ rfl)
    have y6 : wr.cell? ⟨g,off+k*9+6,none⟩=some (.string x.v):=(hf.cell (HL.out.1 _ hsg)).trans (hc1 6 _ rfl)
    have y7 : wr.cell? ⟨g,off+k*9+7,none⟩=some (.int .i64 x.ep):=(hf.cell (HL.out.1 _ hsg)).trans (hc1 7 _ rfl)
    have y8 : wr.cell? ⟨g,off+k*9+8,none⟩=some (.string x.wit):=(hf.cell (HL.out.1 _ hsg)).trans (hc1 8 _ rfl)
    have HD:=Lib.hid (dropH hu)
    have HC:=Lib.hid (law56_few1 x A1 x.att.length c1 S wr r HL.out.2.2.2.1 (HL.out.2.2.2.2 x (List.mem_of_getElem? hu)) rfl (hr1.keep (fun p hp=>hf.cell (HL.out.1 _ hp))) (fun g hg=>Nat.lt_of_lt_of_le (HL.out.1 g hg) hf.size))
    unfold valH at HC
    obtain ⟨b,hb⟩ : ∃ b,(!smallB x)=b:=⟨_,rfl⟩
    rw [hb] at HC
    have HB:=Lib.hid hb
    have HLT:=Lib.hid hlt
    have hil : (k : Int) < (n : Int):=by omega
    have hil2 : (0 : Int)≤(k : Int):=by omega
    clear hu hsg hb hlt hr1 hc1 hf
    cases b
    · have hnx : idxH (fun x=>!smallB x) (hs.drop (k+1)) (k+1)=R:=by
       have:=HX.out
       rw [HD.out] at this
       simp only [idxH,HB.out] at this
       simpa using this
      have HNX:=Lib.hid hnx
      clear hnx
      go_wp2_with (go_at_call 14;(with_reducible refine HC.out.mono ?_);rintro e w5 ⟨rfl,hb5⟩;have H5:=Lib.hid (below2 HFD.out hb5);clear hb5)
      go_roundw
      case rel=>exact ⟨k+1,HLT.out,by go_num,HNX.out,H5.out⟩
      case measure=>have:=HLT.out;simp only [intOf];omega
    · have hkr : (k : Int)=R:=by
       have:=HX.out
       rw [HD.out] at this
       simp only [idxH,HB.out] at this
       simpa using this
      have HKR:=Lib.hid hkr
      clear hkr
      go_wp2_with (go_at_call 14;(with_reducible refine HC.out.mono ?_);rintro e w5 ⟨rfl,hb5⟩;have H5:=Lib.hid (below2 HFD.out hb5);clear hb5)
      go_ret
      exact ⟨by rw [← HKR.out];rfl,H5.out⟩
  · obtain rfl : n=k:=by omega
    have hr1 : R=-1:=by
     have:=HX.out
     rw [List.drop_eq_nil_of_le (by rw [HL.out.2.1];exact Nat.le_refl _)] at this
     exact this.symm
    have HR1:=Lib.hid hr1
    clear hr1
    go_wp2_with fail
    go_ret
    exact ⟨by rw [HR1.out];rfl,HFD.out⟩
theorem contains_few (hs : List Hz) (A : Option Addr) (n c : Nat) (S : Nat→Prop) (w : World) (r : Nat) (hr : r≤140737488355328) (hbn : ∀ x ∈ hs,BndH r x) (hn : hs.length=n) (hm : n≤100000) (h : SlH w S A hs) (hS : ∀ g,S g→g < w.heap.size) :
  Calls Tryz.prog 13 #[.slice A n c,.func (.func 14) #[] #[]] w fun e w'=>e=.returned (.bool (hs.any (fun x=>!smallB x)))∧Below w.heap.size w w':=by
 have H:=Lib.hid (index_few hs A n c S w r hr hbn hn hm h hS)
 obtain ⟨b,hb⟩ : ∃ b,hs.any (fun x=>!smallB x)=b:=⟨_,rfl⟩
 rw [hb]
 cases b with
 | false =>
   rw [idxH_none hb 0] at H
   clear h hS hn hm hb hr hbn
   go_enter Tryz.func13, Tryz.ntmps13
   go_wp2_with (go_at_call 50;refine H.out.mono ?_;rintro e w' ⟨rfl,hb5⟩;have HB:=Lib.hid hb5;clear hb5)
   go_ret
   exact ⟨rfl,HB.out⟩
 | true =>
   obtain ⟨i,h2⟩:=idxH_some hb 0
   rw [h2] at H
   clear h hS hn hm hb h2 hr hbn
   go_enter Tryz.func13, Tryz.ntmps13
   go_wp2_with (go_at_call 50;refine H.out.mono ?_;rintro e w' ⟨rfl,hb5⟩;have HB:=Lib.hid hb5;clear hb5)
   go_ret
   exact ⟨by simp,HB.out⟩
end Go.Proofs.YtjhlddlocpkhkaaGreat
namespace Go.Proofs.YtjhlddlocpkhkaaGreat
open Go.RowKit
set_option maxRecDepth 100000
set_option linter.unusedVariables false
set_option maxHeartbeats 16000000
structure FwB (w : World) (cs : Array Value) (W : World) : Prop where
 box : W.heap[w.heap.size]?=some (.cells cs 27 (0,0))
 bel : Below w.heap.size w W
 size : w.heap.size+1≤W.heap.size
theorem FwB.next {w W w' : World} {cs : Array Value} (h : FwB w cs W) (hb : Below W.heap.size W w') : FwB w cs w' :=
 ⟨(hb.block _ (by have:=h.size;omega)).trans h.box,below2 h.bel hb,Nat.le_trans h.size hb.size⟩
theorem FwB.alloc {w W : World} {cs : Array Value} (h : FwB w cs W) (o : Obj) : FwB w cs (W.alloc o):=h.next ((Below.refl _ _).alloc (Nat.le_refl _) _)
theorem FwB.start {w : World} {cs : Array Value} : FwB w cs (w.alloc (.cells cs 27)):=⟨heap_alloc_new _ _,(Below.refl _ _).alloc (Nat.le_refl _) _,by simp⟩
theorem law56_few (sec : ByteArray) (qs : List Az) (hs : List Hz) (us : List Uz) (Aa Ah Au : Option Addr) (na ca nh ch nu cu : Nat) (S : Nat→Prop) (w : World) (r : Nat) (hr : r≤140737488355328) (hba : ∀ x ∈ qs,BndA r x) (hbh : ∀ x ∈ hs,BndH r x) (hbu : ∀ x ∈ us,x.1.size≤r) (hq : qs.length=na) (hn : hs.length=nh) (hu : us.length=nu) (h : WalM w S qs hs us Aa Ah Au) (hS : ∀ g,S g→g < w.heap.size) :
  Calls Tryz.prog 5 #[.agg #[.string sec,.slice Aa na ca,.slice Ah nh ch,.slice Au nu cu]] w fun e w'=>e=.returned (.bool (fewB sec qs hs us))∧Below w.heap.size w w':=by
 by_cases hall : na≤8∧nh≤8∧nu≤8∧sec.size≤200
 · obtain ⟨l1,l2,l3,l4⟩:=hall
   have HCO:=Lib.hid (fun W (hb : Below w.heap.size w W)=>contains_few hs Ah nh ch S W r hr hbh hn (by omega) ((h.keep (fun p hp=>hb.cell (hS _ hp))).h) (fun g hg=>Nat.lt_of_lt_of_le (hS g hg) hb.size))
   have HM:=Lib.hid (And.intro h hS)
   have HQ:=Lib.hid (And.intro hq (And.intro hn hu))
   have HBA : Hid (∀ x ∈ qs,BndA 140737488355328 x):=Lib.hid (fun x hx=>by obtain ⟨a1,a2,a3,a4,a5⟩:=hba x hx;exact ⟨by omega,by omega,by omega,by omega,by omega⟩)
   have HBU : Hid (∀ x ∈ us,x.1.size≤140737488355328):=Lib.hid (fun x hx=>Nat.le_trans (hbu x hx) hr)
   have HL:=Lib.hid (And.intro l1 (And.intro l2 (And.intro l3 l4)))
   have d1 : decide ((8 : Int) < (na : Int))=false:=decide_eq_false (by omega)
   have d2 : decide ((8 : Int) < (nh : Int))=false:=decide_eq_false (by omega)
   have d3 : decide ((8 : Int) < (nu : Int))=false:=decide_eq_false (by omega)
   have d4 : decide ((200 : Int) < (sec.size : Int))=false:=decide_eq_false (by omega)
   clear h hS hr hba hbh hbu l4
   go_enter Tryz.func5, Tryz.ntmps5
   go_upto_region 3 with fail
   go_wp2_with fail
   go_loopw [3,33] (fun vn v wr=>∃ k : Nat,v=.int .i64 k∧k≤na∧vn=.int .i64 ((sumA (qs.take k) : Nat) : Int)∧FwB w #[.string sec,.slice Aa na ca,.slice Ah nh ch,.slice Au nu cu] wr) (fun _ v _=>na - (intOf v).toNat)
   case atStart=>exact ⟨0,rfl,Nat.zero_le _,by simp [sumA],FwB.start⟩
   case round =>
    obtain ⟨k,rfl,hk,rfl,hb⟩:=hrel
    obtain ⟨T,hT⟩ : ∃ T,sumA (qs.take k)=T:=⟨_,rfl⟩
    rw [hT]
    have HBE:=Lib.hid hb
    by_cases hlt : k < na
    · obtain ⟨⟨qi,qc,qn,qx,qb⟩,hx⟩ : ∃ u,qs[k]?=some u:=⟨qs[k]'(by rw [HQ.out.1];exact hlt),List.getElem?_eq_getElem _⟩
      obtain ⟨g,off,rfl,hsg,y0,y1,y2,y3,y4⟩:=SlA.at_ (RowC.keep HM.out.1.a (fun p hp=>hb.bel.cell (HM.out.2 _ hp))) hx
      have HT1 : Hid (sumA (qs.take (k+1))=T+sizeA (qi,qc,qn,qx,qb)):=Lib.hid (by rw [sumA_take hx];omega)
      have hle : sumA (qs.take k)≤8*(5*140737488355328):=Nat.le_trans (sumA_bound (fun z hz=>HBA.out z (List.mem_of_mem_take hz))) (Nat.mul_le_mul_right _ (by rw [List.length_take];omega))
      obtain ⟨b1,b2,b3,b4,b5⟩:=HBA.out _ (List.mem_of_getElem? hx)
      dsimp only at b1 b2 b3 b4 b5
      obtain ⟨s2,hs2⟩ : ∃ s,qi.size+qc.size=s:=⟨_,rfl⟩
      obtain ⟨s3,hs3⟩ : ∃ s,s2+qn.size=s:=⟨_,rfl⟩
      obtain ⟨s4,hs4⟩ : ∃ s,s3+qx.size=s:=⟨_,rfl⟩
      obtain ⟨s5,hs5⟩ : ∃ s,s4+qb.size=s:=⟨_,rfl⟩
      obtain ⟨s6,hs6⟩ : ∃ s,T+s5=s:=⟨_,rfl⟩
      have e2 : IntKind.i64.wrap ((qi.size : Int)+(qc.size : Int))=(s2 : Int):=by rw [wr64 _ (by omega)];omega
      have e3 : IntKind.i64.wrap ((s2 : Int)+(qn.size : Int))=(s3 : Int):=by rw [wr64 _ (by omega)];omega
      have e4 : IntKind.i64.wrap ((s3 : Int)+(qx.size : Int))=(s4 : Int):=by rw [wr64 _ (by omega)];omega
      have e5 : IntKind.i64.wrap ((s4 : Int)+(qb.size : Int))=(s5 : Int):=by rw [wr64 _ (by omega)];omega
      have e6 : IntKind.i64.wrap ((T : Int)+(s5 : Int))=(s6 : Int):=by rw [wr64 _ (by omega)];omega
      have HT2 : Hid (sumA (qs.take (k+1))=s6):=Lib.hid (by rw [HT1.out];unfold sizeA;dsimp only;omega)
      have HLT:=Lib.hid hlt
      have k2 : (k : Int) < (na : Int):=by omega
      have k3 : (0 : Int)≤(k : Int):=by omega
      have k4 : k < 10:=by omega
      have HN1:=Lib.hid (HBE.out.alloc (.cells #[.string qi,.string qc,.string qn,.string qx,.string qb] 40))
      clear hb hx hlt hk hsg hT hle b1 b2 b3 b4 b5 hs2 hs3 hs4 hs5 hs6 HT1 HBE HCO HM HBA HBU
      go_wp2_with fail
      go_roundw
      case rel=>exact ⟨k+1,by go_num,HLT.out,by rw [HT2.out],HN1.out⟩
      case measure=>have:=HLT.out;simp only [intOf];omega
    · obtain rfl : na=k:=by omega
      have HTA : Hid (sumA qs=T):=Lib.hid (by rw [← hT,List.take_of_length_le (by rw [HQ.out.1];exact Nat.le_refl _)])
      have hTl : T≤8*(5*140737488355328):=by rw [← HTA.out];exact Nat.le_trans (sumA_bound HBA.out) (Nat.mul_le_mul_right _ (by rw [HQ.out.1];omega))
      have HTL:=Lib.hid hTl
      have a3:=cell_of_row _ _ 3 _ _ _ hb.box
      clear hb hlt hk hT hTl
      go_wp2_with fail
      go_loopw [3,64] (fun vn v wr=>∃ k : Nat,v=.int .i64 k∧k≤nu∧vn=.int .i64 ((T+sumU (us.take k) : Nat) : Int)∧FwB w #[.string sec,.slice Aa na ca,.slice Ah nh ch,.slice Au nu cu] wr) (fun _ v _=>nu - (intOf v).toNat)
      case atStart=>exact ⟨0,rfl,Nat.zero_le _,by simp [sumU],HBE.out⟩
      case round =>
       clear HBE a3
       obtain ⟨k,rfl,hk,rfl,hb⟩:=hrel
       obtain ⟨V,hV⟩ : ∃ V,T+sumU (us.take k)=V:=⟨_,rfl⟩
       rw [hV]
       have HBE:=Lib.hid hb
       by_cases hlt : k < nu
       · obtain ⟨⟨us1,up,uc⟩,hx⟩ : ∃ u,us[k]?=some u:=⟨us[k]'(by rw [HQ.out.2.2];exact hlt),List.getElem?_eq_getElem _⟩
         obtain ⟨g,off,rfl,hsg,y0,y1,y2⟩:=SlU.at_ (RowC.keep HM.out.1.u (fun p hp=>hb.bel.cell (HM.out.2 _ hp))) hx
         have HT1 : Hid (T+sumU (us.take (k+1))=V+us1.size):=Lib.hid (by rw [sumU_take hx];dsimp only;omega)
         have hle : sumU (us.take k)≤8*140737488355328:=Nat.le_trans (sumU_bound (fun z hz=>HBU.out z (List.mem_of_mem_take hz))) (Nat.mul_le_mul_right _ (by rw [List.length_take];omega))
         have b1:=HBU.out _ (List.mem_of_getElem? hx)
         dsimp only at b1
         have hTl:=HTL.out
         obtain ⟨s6,hs6⟩ : ∃ s,V+us1.size=s:=⟨_,rfl⟩
         have e6 : IntKind.i64.wrap ((V : Int)+(us1.size : Int))=(s6 : Int):=by rw [wr64 _ (by omega)];omega
         have HT2 : Hid (T+sumU (us.take (k+1))=s6):=Lib.hid (by rw [HT1.out,hs6])
         have HLT:=Lib.hid hlt
         have k2 : (k : Int) < (nu : Int):=by omega
         have k3 : (0 : Int)≤(k : Int):=by omega
         have k4 : k < 10:=by omega
         have HN1:=Lib.hid (HBE.out.alloc (.cells #[.string us1,.int .i64 up,.int .i64 uc] 57))
         clear hb hx hlt hk hsg hV hle b1 hs6 HT1 HBE HCO HM HBA HBU hTl
         go_wp2_with fail
         go_roundw
         case rel=>exact ⟨k+1,by go_num,HLT.out,by rw [HT2.out],HN1.out⟩
         case measure=>have:=HLT.out;simp only [intOf];omega
       · obtain rfl : nu=k:=by omega
         have HVA : Hid (sumA qs+sumU us=V):=Lib.hid (by rw [← hV,HTA.out,List.take_of_length_le (by rw [HQ.out.2.2];exact Nat.le_refl _)])
         have a2:=cell_of_row _ _ 2 _ _ _ hb.box
         by_cases h12 : V≤1200
         · have HF : Hid (fewB sec qs hs us=!(hs.any (fun x=>!smallB x))):=Lib.hid (by
            have hd : decide (qs.length≤8∧hs.length≤8∧us.length≤8∧sec.size≤200∧sumA qs+sumU us≤1200)=true:=decide_eq_true ⟨by rw [HQ.out.1];exact HL.out.1,by rw [HQ.out.2.1];exact HL.out.2.1,by rw [HQ.out.2.2];exact HL.out.2.2.1,HL.out.2.2.2,by rw [HVA.out];exact h12⟩
            unfold fewB
            rw [hd,Bool.true_and,List.not_any_eq_all_not]
            simp)
           have d6 : decide ((V : Int)≤1200)=true:=decide_eq_true (by omega)
           obtain ⟨cb,hcb⟩ : ∃ cb,hs.any (fun x=>!smallB x)=cb:=⟨_,rfl⟩
           rw [hcb] at HF HCO
           have HCW:=Lib.hid (HCO.out _ hb.bel)
           clear hb hlt hk hV hcb
           go_wp2_with (go_at_call 13;(with_reducible refine HCW.out.mono ?_);rintro e w5 ⟨rfl,hb5⟩;have HB5:=Lib.hid (below2 HBE.out.bel hb5);clear hb5)
           go_ret
           exact ⟨by rw [HF.out];simp,HB5.out⟩
         · have HF : Hid (fewB sec qs hs us=false):=Lib.hid (by
            have hd : decide (qs.length≤8∧hs.length≤8∧us.length≤8∧sec.size≤200∧sumA qs+sumU us≤1200)=false:=decide_eq_false (fun h=>h12 (by rw [← HVA.out];exact h.2.2.2.2))
            unfold fewB
            rw [hd,Bool.false_and])
           have d6 : decide ((V : Int)≤1200)=false:=decide_eq_false (by omega)
           clear hb hlt hk hV
           go_wp2_with fail
           go_ret
           exact ⟨by rw [HF.out];simp,HBE.out.bel⟩
 · have HF : Hid (fewB sec qs hs us=false):=Lib.hid (by
    have hd : decide (qs.length≤8∧hs.length≤8∧us.length≤8∧sec.size≤200∧sumA qs+sumU us≤1200)=false:=decide_eq_false (fun h=>hall ⟨by rw [← hq];exact h.1,by rw [← hn];exact h.2.1,by rw [← hu];exact h.2.2.1,h.2.2.2.1⟩)
    unfold fewB
    rw [hd,Bool.false_and])
   have HB : Hid (Below w.heap.size w (w.alloc (.cells #[.string sec,.slice Aa na ca,.slice Ah nh ch,.slice Au nu cu] 27))):=Lib.hid ((Below.refl _ _).alloc (Nat.le_refl _) _)
   clear h hS hr hba hbh hbu hq hn hu
   by_cases l1 : na≤8
   · have d1 : decide ((8 : Int) < (na : Int))=false:=decide_eq_false (by omega)
     by_cases l2 : nh≤8
     · have d2 : decide ((8 : Int) < (nh : Int))=false:=decide_eq_false (by omega)
       by_cases l3 : nu≤8
       · have d3 : decide ((8 : Int) < (nu : Int))=false:=decide_eq_false (by omega)
         have d4 : decide ((200 : Int) < (sec.size : Int))=true:=decide_eq_true (by by_cases l4 : sec.size≤200;{ exact absurd ⟨l1,l2,l3,l4⟩ hall };{ omega })
         clear hall l1 l2 l3
         go_enter Tryz.func5, Tryz.ntmps5
         go_wp2_with fail
         go_ret
         exact ⟨by rw [HF.out];rfl,HB.out⟩
       · have d3 : decide ((8 : Int) < (nu : Int))=true:=decide_eq_true (by omega)
         clear hall l1 l2 l3
         go_enter Tryz.func5, Tryz.ntmps5
         go_wp2_with fail
         go_ret
         exact ⟨by rw [HF.out];rfl,HB.out⟩
     · have d2 : decide ((8 : Int) < (nh : Int))=true:=decide_eq_true (by omega)
       clear hall l1 l2
       go_enter Tryz.func5, Tryz.ntmps5
       go_wp2_with fail
       go_ret
       exact ⟨by rw [HF.out];rfl,HB.out⟩
   · have d1 : decide ((8 : Int) < (na : Int))=true:=decide_eq_true (by omega)
     clear hall l1
     go_enter Tryz.func5, Tryz.ntmps5
     go_wp2_with fail
     go_ret
     exact ⟨by rw [HF.out];rfl,HB.out⟩
end Go.Proofs.YtjhlddlocpkhkaaGreat
