/- Wallet: what the reader's held keeps, at whatever items. Printed by genApk.py. The reference's reader: asked, used. Printed by genArg.py. The reference's reader: what held keeps. Printed by genArh.py. The reference's reader, plain: what it reads is what the program reads, and it is wrong where that fails. The reference's reader: held. Printed by genAri.py. The reference's inner changes, as records, for every argument; the boxes of its Apply. -/
import Derived.Test.YtjhlddlocpkhkaaGreatWhJ39
import Derived.Deep.DeepCutAuto
import Derived.Deep.CutBlock
import Derived.Test.YtjhlddlocpkhkaaGreatWhJ24
import Derived.Test.YtjhlddlocpkhkaaGreatWhNl
import Derived.Test.YtjhlddlocpkhkaaGreatWhNt
import Derived.Test.YtjhlddlocpkhkaaGreatWhNv
namespace Go.Proofs.YtjhlddlocpkhkaaGreat
open Go.RowKit
set_option maxRecDepth 100000
set_option linter.unusedVariables false
set_option maxHeartbeats 8000000
def HdO (w : World) (rb r1 : Nat) (S : Nat→Prop) (r l : Its) (hv : Array Value) (W : World) : Prop:=HdX w rb r1 S r l hv W∧okI l=true∧l.size≤10000
def HoS (w : World) (rb r1 : Nat) (S : Nat→Prop) (r : Its) (hv : Array Value) (W : World) (p : Option (ByteArray × Its)) (o : Ending) (w' : World) : Prop:=(∃ t l,p=some (t,l)∧o=.returned (.string t)∧HdO w rb r1 S r l hv w'∧W.grownBy w' (some r1))∨(p=none∧PanF w rb o w')
def HoN (w : World) (rb r1 : Nat) (S : Nat→Prop) (r : Its) (hv : Array Value) (W : World) (p : Option (Int × Its)) (o : Ending) (w' : World) : Prop:=(∃ z l,p=some (z,l)∧o=.returned (.int .i64 z)∧HdO w rb r1 S r l hv w'∧W.grownBy w' (some r1))∨(p=none∧PanF w rb o w')
def HoL (w : World) (rb r1 : Nat) (S : Nat→Prop) (r : Its) (hv : Array Value) (p : Option (Its × Its)) (o : Ending) (w' : World) : Prop:=(∃ b l A c,p=some (b,l)∧o=.returned (.agg #[.int .i64 2,.string ⟨#[]⟩,.string ⟨#[]⟩,.slice A b.len c])∧b.len≤c∧SlK w' S A b∧okI b=true∧b.size≤10000∧HdO w rb r1 S r l hv w')∨(p=none∧PanF w rb o w')
section
variable {w W w' : World} {rb r1 : Nat} {S : Nat→Prop} {r l : Its} {hv : Array Value}
theorem HdX.pan (h : HdX w rb r1 S r l hv W) (hg : W.grownBy w' (some r1)) : w.grownBy w' (some rb):=gb_new h.gr hg (fun k e=>by have:=h.le;injection e;omega)
theorem ho_text (h : HdO w rb r1 S r l hv W) : Calls Tryz.prog 27 #[.pointer (some ⟨r1,0,none⟩)] W (HoS w rb r1 S r hv W (rTxt l)):=by
 obtain ⟨hx,hok,hsz⟩:=h
 obtain ⟨A,c,h1,h2,h3⟩:=hx.inn
 have hl:=Nat.le_trans (Its.len_size l) hsz
 refine (wal_textA l A _ c r1 S W rfl (by omega) h1 h3 h2 hx.far).mono ?_
 rintro o w' (⟨t,q,e,A2,c2,rfl,k2,k4,k5,k6⟩ | ⟨e,rfl,hg⟩)
 · obtain ⟨e2,ho⟩:=rTxt_some hok e
   exact .inl ⟨t,q,e,rfl,⟨hx.inner k6 ⟨A2,c2,k2,k4,k5⟩,ho,(size_tail (e2 ▸ hsz)).2⟩,k6⟩
 · exact .inr ⟨e,rfl,hx.pan hg⟩
theorem ho_nat (h : HdO w rb r1 S r l hv W) : Calls Tryz.prog 58 #[.pointer (some ⟨r1,0,none⟩)] W (HoS w rb r1 S r hv W (rNat l)):=by
 obtain ⟨hx,hok,hsz⟩:=h
 obtain ⟨A,c,h1,h2,h3⟩:=hx.inn
 have hl:=Nat.le_trans (Its.len_size l) hsz
 refine (wal_natA l A _ c r1 S W rfl (by omega) h1 h3 h2 hx.far).mono ?_
 rintro o w' (⟨t,q,e,A2,c2,rfl,k2,k4,k5,k6⟩ | ⟨e,rfl,hg⟩)
 · obtain ⟨e2,ho,_⟩:=rNat_some hok e
   exact .inl ⟨t,q,e,rfl,⟨hx.inner k6 ⟨A2,c2,k2,k4,k5⟩,ho,(size_tail (e2 ▸ hsz)).2⟩,k6⟩
 · exact .inr ⟨e,rfl,hx.pan hg⟩
theorem ho_number (h : HdO w rb r1 S r l hv W) : Calls Tryz.prog 64 #[.pointer (some ⟨r1,0,none⟩)] W (HoN w rb r1 S r hv W (rNum l)):=by
 obtain ⟨hx,hok,hsz⟩:=h
 obtain ⟨A,c,h1,h2,h3⟩:=hx.inn
 have hl:=Nat.le_trans (Its.len_size l) hsz
 refine (wal_numberA l A _ c r1 S W hok (by omega) rfl (by omega) h1 h3 h2 hx.far).mono ?_
 rintro o w' (⟨t,q,e,A2,c2,rfl,k2,k4,k5,k6⟩ | ⟨e,rfl,hg⟩)
 · obtain ⟨e2,ho,_⟩:=rNum_some hok e
   exact .inl ⟨t,q,e,rfl,⟨hx.inner k6 ⟨A2,c2,k2,k4,k5⟩,ho,(size_tail (e2 ▸ hsz)).2⟩,k6⟩
 · exact .inr ⟨e,rfl,hx.pan hg⟩
theorem ho_next (h : HdO w rb r1 S r l hv W) : Calls Tryz.prog 69 #[.pointer (some ⟨r1,0,none⟩),.int .i64 2] W (HoL w rb r1 S r hv (rLst l)):=by
 obtain ⟨hx,hok,hsz⟩:=h
 obtain ⟨A,c,h1,h2,h3⟩:=hx.inn
 have hl:=Nat.le_trans (Its.len_size l) hsz
 refine (wal_listA l A _ c r1 S W hok rfl (by omega) h1 h3 h2 hx.far).mono ?_
 rintro o w' (⟨b,q,e,A1,c1,A2,c2,rfl,k1,k2,k3,k4,k5,k6⟩ | ⟨e,rfl,hg⟩)
 · obtain ⟨e2,ho,hob⟩:=rLst_some hok e
   exact .inl ⟨b,q,A1,c1,e,rfl,k1,k3,hob,(size_tail (e2 ▸ hsz)).1,hx.inner k6 ⟨A2,c2,k2,k4,k5⟩,ho,(size_tail (e2 ▸ hsz)).2⟩
 · exact .inr ⟨e,rfl,hx.pan hg⟩
theorem ho_end (h : HdX w rb r1 S r l hv W) : Calls Tryz.prog 59 #[.pointer (some ⟨r1,0,none⟩)] W (EyE w rb (rEnd l) W):=by
 obtain ⟨A,c,h1,h2,h3⟩:=h.inn
 refine (wal_endA l A _ c r1 W rfl h3).mono ?_
 rintro o w' (⟨e,rfl,rfl⟩ | ⟨e,rfl,hg⟩)
 · exact .inl ⟨e,rfl,rfl⟩
 · exact .inr ⟨e,rfl,h.pan hg⟩
end
structure HdQ (w : World) (rb r1 r2 : Nat) (S : Nat→Prop) (r l q : Its) (hv : Array Value) (v : Value) (n : Nat) (d : List ByteArray) (W : World) : Prop where
 x : HdX w rb r1 S r l hv W
 le : r1+1 < r2
 lt : r2 < W.heap.size
 nums : InI W r2 S q
 row : OwnS W (r2+1) v n d
section
variable {w W w' : World} {rb r1 r2 : Nat} {S : Nat→Prop} {r l q : Its} {hv : Array Value} {v : Value} {n : Nat} {d : List ByteArray}
theorem HdQ.far (h : HdQ w rb r1 r2 S r l q hv v n d W) : ∀ g,S g→g < W.heap.size∧g≠r2:=fun g hg=>by
 have:=(h.x.own g hg).1
 have:=h.x.le
 have:=h.le
 have:=h.lt
 exact ⟨by omega,by omega⟩
theorem hq_nat {y t : ByteArray} {b : Its} (h : HdQ w rb r1 r2 S r l (.cons 0 y t b q) hv v n d W) (hl : q.len < 100000) :
  Calls Tryz.prog 58 #[.pointer (some ⟨r2,0,none⟩)] W fun o w'=>o=.returned (.string y)∧HdQ w rb r1 r2 S r l q hv v n d w':=by
 obtain ⟨A,c,h1,h2,h3⟩:=h.nums
 have hle:=h.le
 have hlt:=h.lt
 refine (wal_nat y t b q A _ c r2 S W rfl hl h1 h3 h2 h.far).mono ?_
 rintro o w' ⟨A2,c2,rfl,h2,h4,h5,h6⟩
 exact ⟨rfl,h.x.gb h6 (fun k e=>by injection e;omega),hle,Nat.lt_of_lt_of_le hlt h6.size,⟨A2,c2,h2,h4,h5⟩,h.row.gb h6 (by
  cases hb : v.ownBlock with
  | none=>exact .inl rfl
  | some k=>exact .inr (fun e=>by injection e;have:=(h.row.at_ k hb).1;omega))⟩
theorem hq_no (h : HdQ w rb r1 r2 S r l q hv v n d W) (hl : q.len≤100000) (hno : rNat q=none) : Calls Tryz.prog 58 #[.pointer (some ⟨r2,0,none⟩)] W (PanF w rb):=by
 obtain ⟨A,c,h1,h2,h3⟩:=h.nums
 have hle:=h.le
 refine (wal_natA q A _ c r2 S W rfl hl h1 h3 h2 h.far).mono ?_
 rintro o w' (⟨t,q2,e,_⟩ | ⟨e,rfl,hg⟩)
 · rw [hno] at e;cases e
 · exact ⟨rfl,gb_new h.x.gr hg (fun k e=>by have:=h.x.le;injection e;omega)⟩
theorem HdQ.below (h : HdQ w rb r1 r2 S r l q hv v n d W) (hb : Below W.heap.size W w') : HdQ w rb r1 r2 S r l q hv v n d w':=by
 have hle:=h.le
 have hlt:=h.lt
 exact ⟨h.x.below hb,hle,Nat.lt_of_lt_of_le hlt hb.size,h.nums.gb (gb_below (row:=none) hb) (fun g hg=>⟨(h.far g hg).1,by simp⟩) (by simp),h.row.kept (B:=0) hb⟩
theorem HdQ.app {v' : Value} {n' : Nat} {d' : List ByteArray} (h : HdQ w rb r1 r2 S r l q hv v n d W) (hg : W.grownBy w' v.ownBlock) (ho : OwnS w' (r2+1) v' n' d') : HdQ w rb r1 r2 S r l q hv v' n' d' w':=by
 have hle:=h.le
 have hlt:=h.lt
 have hn : ∀ k,k≤r2→some k≠v.ownBlock:=fun k hk e=>by have:=(h.row.at_ k e.symm).1;omega
 exact ⟨h.x.gb hg (fun k e=>by have:=(h.row.at_ k e).1;omega),hle,Nat.lt_of_lt_of_le hlt hg.size,h.nums.gb hg (fun g hgs=>by have:=(h.x.own g hgs).1;have:=h.x.le;exact ⟨by omega,hn g (by omega)⟩) (hn _ (Nat.le_refl _)),ho⟩
theorem HdQ.put (h : HdQ w rb r1 r2 S r l q hv v n d W) (i : Nat) (u : Value) (hv' : Array Value) (e : hv.set! i u=hv') : HdQ w rb r1 r2 S r l q hv' v n d (W.setCell ⟨r1+1,i,none⟩ u):=by
 have hle:=h.le
 have hlt:=h.lt
 have hg : W.grownBy (W.setCell ⟨r1+1,i,none⟩ u) (some (r1+1)):=gb_set
 exact ⟨h.x.put i u hv' e,hle,by simpa using hlt,h.nums.gb hg (fun g hgs=>by have:=(h.x.own g hgs).1;have:=h.x.le;exact ⟨by omega,fun e=>by injection e;omega⟩) (fun e=>by injection e;omega),h.row.gb hg (by
  cases hb : v.ownBlock with
  | none=>exact .inl rfl
  | some k=>exact .inr (fun e=>by injection e;have:=(h.row.at_ k hb).1;omega))⟩
theorem HdQ.to (h : HdQ w rb r1 r2 S r l q hv v n d W) : HdZ w rb r1 S r l hv v n d W:=⟨h.x,h.row.lower (by have:=h.le;omega)⟩
end
def HzS (w : World) (rb r1 : Nat) (S : Nat→Prop) (r : Its) (hv : Array Value) (v : Value) (n : Nat) (d : List ByteArray) (p : Option (ByteArray × Its)) (o : Ending) (w' : World) : Prop:=(∃ t l,p=some (t,l)∧o=.returned (.string t)∧HdZ w rb r1 S r l hv v n d w'∧okI l=true∧l.size≤10000)∨(p=none∧PanF w rb o w')
def HzN (w : World) (rb r1 : Nat) (S : Nat→Prop) (r : Its) (hv : Array Value) (v : Value) (n : Nat) (d : List ByteArray) (p : Option (Int × Its)) (o : Ending) (w' : World) : Prop:=(∃ z l,p=some (z,l)∧o=.returned (.int .i64 z)∧HdZ w rb r1 S r l hv v n d w'∧okI l=true∧l.size≤10000)∨(p=none∧PanF w rb o w')
section
variable {w W w' : World} {rb r1 : Nat} {S : Nat→Prop} {r l : Its} {hv : Array Value} {v : Value} {n : Nat} {d : List ByteArray}
theorem hz_natA (h : HdZ w rb r1 S r l hv v n d W) (hok : okI l=true) (hsz : l.size≤10000) : Calls Tryz.prog 58 #[.pointer (some ⟨r1,0,none⟩)] W (HzS w rb r1 S r hv v n d (rNat l)) :=
 (ho_nat ⟨h.x,hok,hsz⟩).mono fun o w' g=>by
  rcases g with ⟨t,l',e,rfl,⟨hx,ho,hz⟩,hg⟩ | g
  · exact .inl ⟨t,l',e,rfl,h.in1 (Nat.le_succ _) hg hx,ho,hz⟩
  · exact .inr g
theorem hz_numberA (h : HdZ w rb r1 S r l hv v n d W) (hok : okI l=true) (hsz : l.size≤10000) : Calls Tryz.prog 64 #[.pointer (some ⟨r1,0,none⟩)] W (HzN w rb r1 S r hv v n d (rNum l)) :=
 (ho_number ⟨h.x,hok,hsz⟩).mono fun o w' g=>by
  rcases g with ⟨t,l',e,rfl,⟨hx,ho,hz⟩,hg⟩ | g
  · exact .inl ⟨t,l',e,rfl,h.in1 (Nat.le_succ _) hg hx,ho,hz⟩
  · exact .inr g
end
def preN (d : List ByteArray) (p : Option (List ByteArray)) : Option (List ByteArray):=match p with | none=>none | some a=>some (d++a)
theorem preN_nil (p : Option (List ByteArray)) : preN [] p=p:=by cases p<;>rfl
theorem preN_cons (d : List ByteArray) (y t : ByteArray) (b q : Its) : preN d (natsO (.cons 0 y t b q))=preN (d++[y]) (natsO q):=by
 unfold preN
 simp only [natsO,if_true]
 cases natsO q with
 | none=>rfl
 | some a=>simp
theorem okOne_okI {k : Int} {n t : ByteArray} {l : Its} (h : okOne (k,n,t,l)=true) : okI l=true:=by
 rcases ok_kind h with rfl | rfl | rfl
 · rw [(ok_0 h).2.2];rfl
 · rw [(ok_1 h).2];rfl
 · exact (ok_2 h).1
theorem nxQ_ok (k : Int) (l : Its) (bad : Bool) (N : Nat) (hok : okI l=true) (hsz : l.size≤N) : (okI (nxQ k l bad).2.1=true∧(nxQ k l bad).2.1.size≤N)∧okI (nxQ k l bad).1.2.2.2=true∧(nxQ k l bad).1.2.2.2.size≤N:=by
 unfold nxQ
 cases hx : nxt k l with
 | none=>exact ⟨⟨hok,hsz⟩,rfl,Nat.zero_le _⟩
 | some p =>
   obtain ⟨y,r⟩:=p
   obtain ⟨_,e⟩:=nxt_some hx
   subst e
   obtain ⟨h1,h2⟩:=okI_cons hok
   have h3:=size_tail hsz
   exact ⟨⟨h2,h3.2⟩,okOne_okI h1,h3.1⟩
theorem nbQ_ok (l : Its) (bad : Bool) (N : Nat) (hok : okI l=true) (hsz : l.size≤N) : okI (nbQ l bad).2.1=true∧(nbQ l bad).2.1.size≤N:=by
 unfold nbQ
 cases hx : rLst l with
 | none=>exact ⟨hok,hsz⟩
 | some p =>
   obtain ⟨y,r⟩:=p
   obtain ⟨e,h1,_⟩:=rLst_some hok hx
   subst e
   exact ⟨h1,(size_tail hsz).2⟩
structure QyB (w : World) (rb : Nat) (S : Nat→Prop) (bc cs : Array Value) (T : TypeId) (s : Its × Bool) (W : World) : Prop where
 one : W.heap[w.heap.size]?=some (.cells bc T (0,0))
 two : W.heap[w.heap.size+1]?=some (.cells cs T (0,0))
 gr : w.grownBy W (some rb)
 size : w.heap.size+2≤W.heap.size
 inn : InQ W rb S s.1 s.2
 ok : okI s.1=true
 sz : s.1.size≤10000
 rlt : rb < w.heap.size
 own : ∀ g,S g→g < w.heap.size∧g≠rb
def QyN (w : World) (rb : Nat) (S : Nat→Prop) (bc cs : Array Value) (T : TypeId) (p : Its.One × Its × Bool) (o : Ending) (w' : World) : Prop :=
 ∃ A c,o=.returned (.agg #[.int .i64 p.1.1,.string p.1.2.1,.string p.1.2.2.1,.slice A p.1.2.2.2.len c])∧QyB w rb S bc cs T p.2 w'
def QyZ (w : World) (rb : Nat) (S : Nat→Prop) (bc cs : Array Value) (T : TypeId) (p : Int × Its × Bool) (o : Ending) (w' : World) : Prop:=o=.returned (.int .i64 p.1)∧QyB w rb S bc cs T p.2 w'
section
variable {w W w' : World} {rb : Nat} {S : Nat→Prop} {bc cs : Array Value} {T : TypeId} {s s' : Its × Bool}
theorem QyB.start (hin : InQ w rb S s.1 s.2) (hok : okI s.1=true) (hsz : s.1.size≤10000) (hS : ∀ g,S g→g < w.heap.size∧g≠rb) : QyB w rb S bc cs T s ((w.alloc (.cells bc T)).alloc (.cells cs T)):=by
 have hb : Below w.heap.size w ((w.alloc (.cells bc T)).alloc (.cells cs T)):=((Below.refl _ _).alloc (Nat.le_refl _) _).alloc (by simp) _
 exact ⟨(two_boxes w _ _).1,(two_boxes w _ _).2,gb_below hb,by simp,hin.gb (gb_below (row:=none) hb) (fun g hg=>⟨(hS g hg).1,by simp⟩) (by simp),hok,hsz,hin.lt,hS⟩
theorem QyB.far (h : QyB w rb S bc cs T s W) : ∀ g,S g→g < W.heap.size∧g≠rb:=fun g hg=>⟨by have:=(h.own g hg).1;have:=h.size;omega,(h.own g hg).2⟩
theorem QyB.rd (h : QyB w rb S bc cs T s W) (hg : W.grownBy w' (some rb)) (hi : InQ w' rb S s'.1 s'.2) (ho : okI s'.1=true) (hz : s'.1.size≤10000) : QyB w rb S bc cs T s' w' :=
 have h1:=h.size
 have h2:=h.rlt
 ⟨(hg.block _ (by omega) (fun e=>by injection e;omega)).trans h.one,(hg.block _ (by omega) (fun e=>by injection e;omega)).trans h.two,h.gr.trans hg,Nat.le_trans h.size hg.size,hi,ho,hz,h2,h.own⟩
theorem QyB.put (h : QyB w rb S bc cs T s W) (i : Nat) (v : Value) (cs' : Array Value) (e : cs.set! i v=cs') : QyB w rb S bc cs' T s (W.setCell ⟨w.heap.size+1,i,none⟩ v):=by
 subst e
 have h2:=h.rlt
 have hg : W.grownBy (W.setCell ⟨w.heap.size+1,i,none⟩ v) (some (w.heap.size+1)):=gb_set
 exact ⟨(heap_setCell_other _ _ _ _ (show w.heap.size≠w.heap.size+1 by omega)).trans h.one,heap_setCell_same W (w.heap.size+1) i _ _ _ h.two,gb_new h.gr hg (fun k e=>by injection e;omega),by simpa using h.size,h.inn.gb hg (fun g hgs=>⟨(h.far g hgs).1,fun e=>by injection e;have:=(h.own g hgs).1;omega⟩) (fun e=>by injection e;omega),h.ok,h.sz,h2,h.own⟩
theorem qy_next (k : Int) (p : Its.One × Its × Bool) (e : nxQ k s.1 s.2=p) (h : QyB w rb S bc cs T s W) : Calls Tryz.prog 30 #[.pointer (some ⟨rb,0,none⟩),.int .i64 k] W (QyN w rb S bc cs T p):=by
 subst e
 refine (r56_next k s.1 s.2 rb S W h.inn (by have:=Its.len_size s.1;have:=h.sz;omega) h.far).mono ?_
 rintro o w' ⟨A,c,rfl,h1,h2,h3,h4⟩
 have h5:=nxQ_ok k s.1 s.2 _ h.ok h.sz
 exact ⟨A,c,rfl,h.rd h4 h3 h5.1.1 h5.1.2⟩
theorem qy_number (p : Int × Its × Bool) (e : nbQ s.1 s.2=p) (h : QyB w rb S bc cs T s W) : Calls Tryz.prog 37 #[.pointer (some ⟨rb,0,none⟩)] W (QyZ w rb S bc cs T p):=by
 subst e
 refine (r56_number s.1 s.2 rb S W h.inn h.ok h.sz h.far).mono ?_
 rintro o w' ⟨rfl,h3,h4⟩
 have h5:=nbQ_ok s.1 s.2 _ h.ok h.sz
 exact ⟨rfl,h.rd h4 h3 h5.1 h5.2⟩
end
noncomputable def askedS (s : Its × Bool) : Az × Its × Bool :=
 let p1:=nxQ 1 s.1 s.2
 let p2:=nxQ 1 p1.2.1 p1.2.2
 let p3:=nxQ 1 p2.2.1 p2.2.2
 let p4:=nxQ 0 p3.2.1 p3.2.2
 let p5:=nxQ 0 p4.2.1 p4.2.2
 ((p1.1.2.2.1,p2.1.2.2.1,p3.1.2.2.1,p4.1.2.1,p5.1.2.1),p5.2)
noncomputable def usedS (s : Its × Bool) : Uz × Its × Bool :=
 let p1:=nxQ 1 s.1 s.2
 let p2:=nbQ p1.2.1 p1.2.2
 let p3:=nbQ p2.2.1 p2.2.2
 ((p1.1.2.2.1,p2.1,p3.1),p3.2)
def AsQ (w : World) (rb : Nat) (S : Nat→Prop) (p : Az × Its × Bool) (o : Ending) (w' : World) : Prop:=o=.returned (.agg #[.string p.1.1,.string p.1.2.1,.string p.1.2.2.1,.string p.1.2.2.2.1,.string p.1.2.2.2.2])∧InQ w' rb S p.2.1 p.2.2∧w.grownBy w' (some rb)
def UsQ (w : World) (rb : Nat) (S : Nat→Prop) (p : Uz × Its × Bool) (o : Ending) (w' : World) : Prop:=o=.returned (.agg #[.string p.1.1,.int .i64 p.1.2.1,.int .i64 p.1.2.2])∧InQ w' rb S p.2.1 p.2.2∧w.grownBy w' (some rb)
theorem r56_asked (s : Its × Bool) (rb : Nat) (S : Nat→Prop) (w : World) (hin : InQ w rb S s.1 s.2) (hok : okI s.1=true) (hsz : s.1.size≤10000) (hS : ∀ g,S g→g < w.heap.size∧g≠rb) :
  Calls Tryz.prog 33 #[.pointer (some ⟨rb,0,none⟩)] w (AsQ w rb S (askedS s)):=by
 have H0:=Lib.hid (QyB.start (bc:=#[.string ⟨#[]⟩,.string ⟨#[]⟩,.string ⟨#[]⟩,.string ⟨#[]⟩,.string ⟨#[]⟩]) (cs:=#[.string ⟨#[]⟩,.string ⟨#[]⟩,.string ⟨#[]⟩,.string ⟨#[]⟩,.string ⟨#[]⟩]) (T:=40) hin hok hsz hS)
 obtain ⟨p1,hp1⟩ : ∃ p,nxQ 1 s.1 s.2=p:=⟨_,rfl⟩
 have E1:=Lib.hid hp1
 obtain ⟨p2,hp2⟩ : ∃ p,nxQ 1 p1.2.1 p1.2.2=p:=⟨_,rfl⟩
 have E2:=Lib.hid hp2
 obtain ⟨p3,hp3⟩ : ∃ p,nxQ 1 p2.2.1 p2.2.2=p:=⟨_,rfl⟩
 have E3:=Lib.hid hp3
 obtain ⟨p4,hp4⟩ : ∃ p,nxQ 0 p3.2.1 p3.2.2=p:=⟨_,rfl⟩
 have E4:=Lib.hid hp4
 obtain ⟨p5,hp5⟩ : ∃ p,nxQ 0 p4.2.1 p4.2.2=p:=⟨_,rfl⟩
 have E5:=Lib.hid hp5
 have HC1:=Lib.hid (qy_next 1 p1 E1.out H0.out)
 obtain ⟨P,hP⟩ : ∃ P,askedS s=P:=⟨_,rfl⟩
 rw [hP]
 have HP:=Lib.hid hP
 clear hin hok hsz hS hP hp1 hp2 hp3 hp4 hp5
 have hf1:=fld_1
 have hf2:=fld_2
 go_enter Tryz.func33, Tryz.ntmps33
 go_upto_region 7 with (first
  | (go_at_call 30;(with_reducible refine HC1.out.mono ?_);rintro o w1 ⟨A1,c1,rfl,h1⟩;have y1:=cell_of_row _ _ 0 _ _ _ h1.two;have g1:=frozen_of_row _ _ 0 _ _ h1.two;have HC2:=Lib.hid (qy_next 1 p2 E2.out (h1.put 0 (.string p1.1.2.2.1) #[.string p1.1.2.2.1,.string ⟨#[]⟩,.string ⟨#[]⟩,.string ⟨#[]⟩,.string ⟨#[]⟩] rfl));clear h1 HC1)
  | (go_at_call 30;(with_reducible refine HC2.out.mono ?_);rintro o w2 ⟨A2,c2,rfl,h2⟩;have y2:=cell_of_row _ _ 1 _ _ _ h2.two;have g2:=frozen_of_row _ _ 1 _ _ h2.two;have HC3:=Lib.hid (qy_next 1 p3 E3.out (h2.put 1 (.string p2.1.2.2.1) #[.string p1.1.2.2.1,.string p2.1.2.2.1,.string ⟨#[]⟩,.string ⟨#[]⟩,.string ⟨#[]⟩] rfl));clear h2 HC2)
  | (go_at_call 30;(with_reducible refine HC3.out.mono ?_);rintro o w3 ⟨A3,c3,rfl,h3⟩;have y3:=cell_of_row _ _ 2 _ _ _ h3.two;have g3:=frozen_of_row _ _ 2 _ _ h3.two;have HC4:=Lib.hid (qy_next 0 p4 E4.out (h3.put 2 (.string p3.1.2.2.1) #[.string p1.1.2.2.1,.string p2.1.2.2.1,.string p3.1.2.2.1,.string ⟨#[]⟩,.string ⟨#[]⟩] rfl));clear h3 HC3)
  | (go_at_call 30;(with_reducible refine HC4.out.mono ?_);rintro o w4 ⟨A4,c4,rfl,h4⟩;have y4:=cell_of_row _ _ 3 _ _ _ h4.two;have g4:=frozen_of_row _ _ 3 _ _ h4.two;have HC5:=Lib.hid (qy_next 0 p5 E5.out (h4.put 3 (.string p4.1.2.1) #[.string p1.1.2.2.1,.string p2.1.2.2.1,.string p3.1.2.2.1,.string p4.1.2.1,.string ⟨#[]⟩] rfl));clear h4 HC4)
  | (go_at_call 30;(with_reducible refine HC5.out.mono ?_);rintro o w5 ⟨A5,c5,rfl,h5⟩;have y5:=cell_of_row _ _ 4 _ _ _ h5.two;have g5:=frozen_of_row _ _ 4 _ _ h5.two;have HZ:=Lib.hid (h5.put 4 (.string p5.1.2.1) #[.string p1.1.2.2.1,.string p2.1.2.2.1,.string p3.1.2.2.1,.string p4.1.2.1,.string p5.1.2.1] rfl);clear h5 HC5))
 obtain ⟨W5,hW5⟩ : ∃ W5,w5.setCell ⟨w.heap.size+1,4,none⟩ (.string p5.1.2.1)=W5:=⟨_,rfl⟩
 rw [hW5] at HZ ⊢
 clear hW5 y1 g1 y2 g2 y3 g3 y4 g4 y5 g5
 have hb1:=HZ.out.one
 have hb2:=HZ.out.two
 have g0:=frozen_of_row _ _ 0 _ _ hb1
 have r0:=cell_of_row _ _ 0 _ _ _ hb1
 have z0:=cell_of_row _ _ 0 _ _ _ hb2
 have g1:=frozen_of_row _ _ 1 _ _ hb1
 have r1:=cell_of_row _ _ 1 _ _ _ hb1
 have z1:=cell_of_row _ _ 1 _ _ _ hb2
 have g2:=frozen_of_row _ _ 2 _ _ hb1
 have r2:=cell_of_row _ _ 2 _ _ _ hb1
 have z2:=cell_of_row _ _ 2 _ _ _ hb2
 have g3:=frozen_of_row _ _ 3 _ _ hb1
 have r3:=cell_of_row _ _ 3 _ _ _ hb1
 have z3:=cell_of_row _ _ 3 _ _ _ hb2
 have g4:=frozen_of_row _ _ 4 _ _ hb1
 have r4:=cell_of_row _ _ 4 _ _ _ hb1
 have z4:=cell_of_row _ _ 4 _ _ _ hb2
 clear hb1 hb2
 go_wp2_with fail
 refine bodyPost_ret (v:=.agg #[.string p1.1.2.2.1,.string p2.1.2.2.1,.string p3.1.2.2.1,.string p4.1.2.1,.string p5.1.2.1]) (by simp [results,Tryz.results33,go_sem,r0,r1,r2,r3,r4]) rfl ?_
 have hg : W5.grownBy (((((W5.setCell ⟨w.heap.size,0,none⟩ (.string p1.1.2.2.1)).setCell ⟨w.heap.size,1,none⟩ (.string p2.1.2.2.1)).setCell ⟨w.heap.size,2,none⟩ (.string p3.1.2.2.1)).setCell ⟨w.heap.size,3,none⟩ (.string p4.1.2.1)).setCell ⟨w.heap.size,4,none⟩ (.string p5.1.2.1)) (some w.heap.size):=(((gb_set.trans gb_set).trans gb_set).trans gb_set).trans gb_set
 have h3:=HZ.out
 rw [← HP.out]
 unfold askedS
 simp only [E1.out,E2.out,E3.out,E4.out,E5.out]
 exact ⟨rfl,h3.inn.gb hg (fun g hgs=>⟨(h3.far g hgs).1,fun e=>by injection e;have:=(h3.own g hgs).1;omega⟩) (fun e=>by injection e;have:=h3.rlt;omega),gb_new h3.gr hg (fun k e=>by injection e;omega)⟩
theorem r56_used (s : Its × Bool) (rb : Nat) (S : Nat→Prop) (w : World) (hin : InQ w rb S s.1 s.2) (hok : okI s.1=true) (hsz : s.1.size≤10000) (hS : ∀ g,S g→g < w.heap.size∧g≠rb) :
  Calls Tryz.prog 39 #[.pointer (some ⟨rb,0,none⟩)] w (UsQ w rb S (usedS s)):=by
 have H0:=Lib.hid (QyB.start (bc:=#[.string ⟨#[]⟩,.int .i64 0,.int .i64 0]) (cs:=#[.string ⟨#[]⟩,.int .i64 0,.int .i64 0]) (T:=57) hin hok hsz hS)
 obtain ⟨p1,hp1⟩ : ∃ p,nxQ 1 s.1 s.2=p:=⟨_,rfl⟩
 have E1:=Lib.hid hp1
 obtain ⟨p2,hp2⟩ : ∃ p,nbQ p1.2.1 p1.2.2=p:=⟨_,rfl⟩
 have E2:=Lib.hid hp2
 obtain ⟨p3,hp3⟩ : ∃ p,nbQ p2.2.1 p2.2.2=p:=⟨_,rfl⟩
 have E3:=Lib.hid hp3
 have HC1:=Lib.hid (qy_next 1 p1 E1.out H0.out)
 obtain ⟨P,hP⟩ : ∃ P,usedS s=P:=⟨_,rfl⟩
 rw [hP]
 have HP:=Lib.hid hP
 clear hin hok hsz hS hP hp1 hp2 hp3
 have hf1:=fld_1
 have hf2:=fld_2
 go_enter Tryz.func39, Tryz.ntmps39
 go_upto_region 5 with (first
  | (go_at_call 30;(with_reducible refine HC1.out.mono ?_);rintro o w1 ⟨A1,c1,rfl,h1⟩;have y1:=cell_of_row _ _ 0 _ _ _ h1.two;have g1:=frozen_of_row _ _ 0 _ _ h1.two;have HC2:=Lib.hid (qy_number p2 E2.out (h1.put 0 (.string p1.1.2.2.1) #[.string p1.1.2.2.1,.int .i64 0,.int .i64 0] rfl));clear h1 HC1)
  | (go_at_call 37;(with_reducible refine HC2.out.mono ?_);rintro o w2 ⟨rfl,h2⟩;have y2:=cell_of_row _ _ 1 _ _ _ h2.two;have g2:=frozen_of_row _ _ 1 _ _ h2.two;have HC3:=Lib.hid (qy_number p3 E3.out (h2.put 1 (.int .i64 p2.1) #[.string p1.1.2.2.1,.int .i64 p2.1,.int .i64 0] rfl));clear h2 HC2)
  | (go_at_call 37;(with_reducible refine HC3.out.mono ?_);rintro o w3 ⟨rfl,h3⟩;have y3:=cell_of_row _ _ 2 _ _ _ h3.two;have g3:=frozen_of_row _ _ 2 _ _ h3.two;have HZ:=Lib.hid (h3.put 2 (.int .i64 p3.1) #[.string p1.1.2.2.1,.int .i64 p2.1,.int .i64 p3.1] rfl);clear h3 HC3))
 obtain ⟨W5,hW5⟩ : ∃ W5,w3.setCell ⟨w.heap.size+1,2,none⟩ (.int .i64 p3.1)=W5:=⟨_,rfl⟩
 rw [hW5] at HZ ⊢
 clear hW5 y1 g1 y2 g2 y3 g3
 have hb1:=HZ.out.one
 have hb2:=HZ.out.two
 have g0:=frozen_of_row _ _ 0 _ _ hb1
 have r0:=cell_of_row _ _ 0 _ _ _ hb1
 have z0:=cell_of_row _ _ 0 _ _ _ hb2
 have g1:=frozen_of_row _ _ 1 _ _ hb1
 have r1:=cell_of_row _ _ 1 _ _ _ hb1
 have z1:=cell_of_row _ _ 1 _ _ _ hb2
 have g2:=frozen_of_row _ _ 2 _ _ hb1
 have r2:=cell_of_row _ _ 2 _ _ _ hb1
 have z2:=cell_of_row _ _ 2 _ _ _ hb2
 clear hb1 hb2
 go_wp2_with fail
 refine bodyPost_ret (v:=.agg #[.string p1.1.2.2.1,.int .i64 p2.1,.int .i64 p3.1]) (by simp [results,Tryz.results39,go_sem,r0,r1,r2]) rfl ?_
 have hg : W5.grownBy (((W5.setCell ⟨w.heap.size,0,none⟩ (.string p1.1.2.2.1)).setCell ⟨w.heap.size,1,none⟩ (.int .i64 p2.1)).setCell ⟨w.heap.size,2,none⟩ (.int .i64 p3.1)) (some w.heap.size):=(gb_set.trans gb_set).trans gb_set
 have h3:=HZ.out
 rw [← HP.out]
 unfold usedS
 simp only [E1.out,E2.out,E3.out]
 exact ⟨rfl,h3.inn.gb hg (fun g hgs=>⟨(h3.far g hgs).1,fun e=>by injection e;have:=(h3.own g hgs).1;omega⟩) (fun e=>by injection e;have:=h3.rlt;omega),gb_new h3.gr hg (fun k e=>by injection e;omega)⟩
def natsN : Its→List ByteArray | .nil=>[] | .cons _ n _ _ r=>n::natsN r
def badN : Its→Bool | .nil=>false | .cons k _ _ _ r=>decide (k≠0)||badN r
theorem natsN_app (a b : Its) : natsN (a.app b)=natsN a++natsN b:=by
 induction a with
 | nil=>rfl
 | cons k n t l r _ ih=>show n::natsN (r.app b)=_;rw [ih];rfl
theorem badN_app (a b : Its) : badN (a.app b)=(badN a||badN b):=by
 induction a with
 | nil=>rfl
 | cons k n t l r _ ih=>show (decide (k≠0)||badN (r.app b))=_;rw [ih,← Bool.or_assoc];rfl
theorem natsN_len (a : Its) : (natsN a).length=a.len:=by
 induction a with
 | nil=>rfl
 | cons k n t l r _ ih=>show (natsN r).length+1=r.len+1;rw [ih]
noncomputable def heldS (s : Its × Bool) : Hz × Its × Bool :=
 let p0:=nxQ 2 s.1 s.2
 let p1:=nxQ 1 p0.1.2.2.2 false
 let p2:=nxQ 1 p1.2.1 p1.2.2
 let p3:=nbQ p2.2.1 p2.2.2
 let p4:=nxQ 2 p3.2.1 p3.2.2
 let p5:=nxQ 0 p4.2.1 (p4.2.2||badN p4.1.2.2.2)
 let p6:=nxQ 0 p5.2.1 p5.2.2
 let p7:=nxQ 0 p6.2.1 p6.2.2
 let p8:=nbQ p7.2.1 p7.2.2
 let p9:=nxQ 0 p8.2.1 p8.2.2
 (⟨p1.1.2.2.1,p2.1.2.2.1,p3.1,natsN p4.1.2.2.2,p5.1.2.1,p6.1.2.1,p7.1.2.1,p8.1,p9.1.2.1⟩,p0.2.1,p0.2.2||p9.2.2||decide (0 < p9.2.1.len))
structure HqX (w : World) (rb r1 : Nat) (S : Nat→Prop) (t s : Its × Bool) (hv : Array Value) (v : Value) (n : Nat) (d : List ByteArray) (W : World) : Prop where
 res : W.heap[w.heap.size]?=some (.cells zeroH 47 (0,0))
 held : W.heap[r1+1]?=some (.cells hv 47 (0,0))
 gr : w.grownBy W (some rb)
 le : w.heap.size < r1
 size : r1+1 < W.heap.size
 out : InQ W rb S t.1 t.2
 inn : InQ W r1 S s.1 s.2
 rlt : rb < w.heap.size
 own : ∀ g,S g→g < w.heap.size∧g≠rb
 ok : okI s.1=true
 sz : s.1.size≤10000
 row : OwnS W (r1+2) v n d
section
variable {w W w' : World} {rb r1 : Nat} {S : Nat→Prop} {t s s' : Its × Bool} {hv : Array Value} {v v' : Value} {n n' : Nat} {d d' : List ByteArray} {row : Option Nat}
theorem HqX.gb (h : HqX w rb r1 S t s hv v n d W) (hg : W.grownBy w' row) (hr : ∀ k,row=some k→r1+1 < k) (ho : OwnS w' (r1+2) v' n' d') : HqX w rb r1 S t s hv v' n' d' w':=by
 have h1:=h.le
 have h2:=h.size
 have h3:=h.rlt
 have hn : ∀ k,k≤r1+1→some k≠row:=fun k hk e=>by have:=hr k e.symm;omega
 have hs : ∀ g,S g→g < W.heap.size∧some g≠row:=fun g hgs=>by have:=(h.own g hgs).1;exact ⟨by omega,hn g (by omega)⟩
 exact ⟨(hg.block _ (by omega) (hn _ (by omega))).trans h.res,(hg.block _ (by omega) (hn _ (by omega))).trans h.held,gb_new h.gr hg (fun k e=>by have:=hr k e;omega),h1,Nat.lt_of_lt_of_le h2 hg.size,h.out.gb hg hs (hn _ (by omega)),h.inn.gb hg hs (hn _ (by omega)),h3,h.own,h.ok,h.sz,ho⟩
theorem HqX.below (h : HqX w rb r1 S t s hv v n d W) (hb : Below W.heap.size W w') : HqX w rb r1 S t s hv v n d w':=h.gb (gb_below (row:=none) hb) (fun k e=>by cases e) (h.row.kept (B:=0) hb)
theorem HqX.drew (h : HqX w rb r1 S t s hv v n d W) : HqX w rb r1 S t s hv v n d W.drew:=h.below (Below.refl _ _).drew
theorem HqX.alloc (h : HqX w rb r1 S t s hv v n d W) (o : Obj) : HqX w rb r1 S t s hv v n d (W.alloc o):=h.below ((Below.refl _ _).alloc (Nat.le_refl _) _)
theorem HqX.app (h : HqX w rb r1 S t s hv v n d W) (hg : W.grownBy w' v.ownBlock) (ho : OwnS w' (r1+2) v' n' d') : HqX w rb r1 S t s hv v' n' d' w' :=
 h.gb hg (fun k e=>by have:=(h.row.at_ k e).1;omega) ho
theorem HqX.own1 (h : HqX w rb r1 S t s hv v n d W) {i : Nat} (hi : i≤r1+1) (hg : W.grownBy w' (some i)) : OwnS w' (r1+2) v n d:=h.row.gb hg (by
  cases hb : v.ownBlock with
  | none=>exact .inl rfl
  | some k=>exact .inr (fun e=>by injection e;have:=(h.row.at_ k hb).1;omega))
theorem HqX.inner (h : HqX w rb r1 S t s hv v n d W) (hg : W.grownBy w' (some r1)) (hi : InQ w' r1 S s'.1 s'.2) (ho : okI s'.1=true) (hz : s'.1.size≤10000) : HqX w rb r1 S t s' hv v n d w':=by
 have h1:=h.le
 have h2:=h.size
 have h3:=h.rlt
 have hs : ∀ g,S g→g < W.heap.size∧some g≠some r1:=fun g hgs=>by have:=(h.own g hgs).1;exact ⟨by omega,fun e=>by injection e;omega⟩
 exact ⟨(hg.block _ (by omega) (fun e=>by injection e;omega)).trans h.res,(hg.block _ (by omega) (fun e=>by injection e;omega)).trans h.held,gb_new h.gr hg (fun k e=>by injection e;omega),h1,Nat.lt_of_lt_of_le h2 hg.size,h.out.gb hg hs (fun e=>by injection e;omega),hi,h3,h.own,ho,hz,h.own1 (Nat.le_succ _) hg⟩
theorem HqX.put (h : HqX w rb r1 S t s hv v n d W) (i : Nat) (u : Value) (hv' : Array Value) (e : hv.set! i u=hv') : HqX w rb r1 S t s hv' v n d (W.setCell ⟨r1+1,i,none⟩ u):=by
 have h1:=h.le
 have h2:=h.size
 have h3:=h.rlt
 have hg : W.grownBy (W.setCell ⟨r1+1,i,none⟩ u) (some (r1+1)):=gb_set
 have hs : ∀ g,S g→g < W.heap.size∧some g≠some (r1+1):=fun g hgs=>by have:=(h.own g hgs).1;exact ⟨by omega,fun e=>by injection e;omega⟩
 subst e
 exact ⟨(hg.block _ (by omega) (fun e=>by injection e;omega)).trans h.res,heap_setCell_same W (r1+1) i _ _ _ h.held,gb_new h.gr hg (fun k e=>by injection e;omega),h1,Nat.lt_of_lt_of_le h2 hg.size,h.out.gb hg hs (fun e=>by injection e;omega),h.inn.gb hg hs (fun e=>by injection e;omega),h3,h.own,h.ok,h.sz,h.own1 (Nat.le_refl _) hg⟩
theorem HqX.far (h : HqX w rb r1 S t s hv v n d W) : ∀ g,S g→g < W.heap.size∧g≠r1:=fun g hg=>by
 have h1:=h.le
 have h2:=h.size
 have:=(h.own g hg).1
 exact ⟨by omega,by omega⟩
theorem HqX.bad (h : HqX w rb r1 S t s hv v n d W) : HqX w rb r1 S t (s.1,true) hv v n d (W.setCell ⟨r1,1,none⟩ (.bool true)):=by
 have hg : W.grownBy (W.setCell ⟨r1,1,none⟩ (.bool true)) (some r1):=gb_set
 obtain ⟨A,c,k1,k2,k3⟩:=h.inn
 exact h.inner hg ⟨A,c,k1,k2.keep (fun p hp=>gb_cell hg (h.far _ hp).1 (h.far _ hp).2),k3.putB true⟩ h.ok h.sz
theorem HqX.back (h : HqX w rb r1 S t s hv v n d W) {A : Option Addr} {l : Its} (hs : SlK W S A l) : SlK w S A l:=hs.keep (fun p hp=>(gb_cell h.gr (h.own _ hp).1 (h.own _ hp).2).symm)
theorem HqX.forth (h : HqX w rb r1 S t s hv v n d W) {A : Option Addr} {l : Its} (hs : SlK w S A l) : SlK W S A l:=hs.keep (fun p hp=>gb_cell h.gr (h.own _ hp).1 (h.own _ hp).2)
def HqN (w : World) (rb r1 : Nat) (S : Nat→Prop) (t : Its × Bool) (hv : Array Value) (v : Value) (n : Nat) (d : List ByteArray) (p : Its.One × Its × Bool) (o : Ending) (w' : World) : Prop :=
 ∃ A c,o=.returned (.agg #[.int .i64 p.1.1,.string p.1.2.1,.string p.1.2.2.1,.slice A p.1.2.2.2.len c])∧HqX w rb r1 S t p.2 hv v n d w'∧SlK w S A p.1.2.2.2
def HqZ (w : World) (rb r1 : Nat) (S : Nat→Prop) (t : Its × Bool) (hv : Array Value) (v : Value) (n : Nat) (d : List ByteArray) (p : Int × Its × Bool) (o : Ending) (w' : World) : Prop:=o=.returned (.int .i64 p.1)∧HqX w rb r1 S t p.2 hv v n d w'
theorem hx_next (k : Int) (p : Its.One × Its × Bool) (e : nxQ k s.1 s.2=p) (h : HqX w rb r1 S t s hv v n d W) : Calls Tryz.prog 30 #[.pointer (some ⟨r1,0,none⟩),.int .i64 k] W (HqN w rb r1 S t hv v n d p):=by
 subst e
 refine (r56_next k s.1 s.2 r1 S W h.inn (by have:=Its.len_size s.1;have:=h.sz;omega) h.far).mono ?_
 rintro o w' ⟨A,c,rfl,h1,h2,h3,h4⟩
 have h5:=nxQ_ok k s.1 s.2 _ h.ok h.sz
 have h6 : HqX w rb r1 S t (nxQ k s.1 s.2).2 hv v n d w':=h.inner h4 h3 h5.1.1 h5.1.2
 exact ⟨A,c,rfl,h6,h6.back h2⟩
theorem hx_number (p : Int × Its × Bool) (e : nbQ s.1 s.2=p) (h : HqX w rb r1 S t s hv v n d W) : Calls Tryz.prog 37 #[.pointer (some ⟨r1,0,none⟩)] W (HqZ w rb r1 S t hv v n d p):=by
 subst e
 refine (r56_number s.1 s.2 r1 S W h.inn h.ok h.sz h.far).mono ?_
 rintro o w' ⟨rfl,h3,h4⟩
 have h5:=nbQ_ok s.1 s.2 _ h.ok h.sz
 exact ⟨rfl,h.inner h4 h3 h5.1 h5.2⟩
theorem HqX.fin {A : Option Addr} {c : Nat} (h : HqX w rb r1 S t s hv (.slice A n c) n d W) (b : Bool) (hg : (W.setCell ⟨rb,1,none⟩ (.bool b)).grownBy w' (some w.heap.size)) :
  RowC w' (fun g=>w.heap.size≤g∧g < w'.heap.size) A n (cellsN d)∧InQ w' rb S t.1 b∧w.grownBy w' (some rb):=by
 have h1:=h.le
 have h2:=h.size
 have h3:=h.rlt
 have hgs : W.grownBy (W.setCell ⟨rb,1,none⟩ (.bool b)) (some rb):=gb_set
 have hr : OwnS w' (r1+2) (.slice A n c) n d:=(h.own1 (i:=rb) (by omega) hgs).gb hg (by
  cases hb : (Value.slice A n c).ownBlock with
  | none=>exact .inl rfl
  | some k=>exact .inr (fun e=>by injection e;have:=(h.row.at_ k hb).1;omega))
 obtain ⟨A2,c2,k1,k2,k3⟩:=h.out
 have hin : InQ (W.setCell ⟨rb,1,none⟩ (.bool b)) rb S t.1 b:=⟨A2,c2,k1,k2.keep (fun p hp=>gb_cell hgs (h.far _ hp).1 (h.own _ hp).2),k3.putB b⟩
 exact ⟨(hr.lower (by omega)).rowC,hin.gb hg (fun g hgs=>by have:=(h.own g hgs).1;exact ⟨by simp;omega,fun e=>by injection e;omega⟩) (fun e=>by injection e;omega),gb_new (h.gr.trans hgs) hg (fun k e=>by injection e;omega)⟩
end
theorem HqX.start {w w5 : World} {rb : Nat} {S : Nat→Prop} {p : Its.One × Its × Bool} {A : Option Addr} {c n : Nat} (hn : p.1.2.2.2.len=n) (hrb : rb < w.heap.size) (hS : ∀ g,S g→g < w.heap.size∧g≠rb) (hc : p.1.2.2.2.len≤c) (hs : SlK w5 S A p.1.2.2.2) (ho : InQ w5 rb S p.2.1 p.2.2) (hg : (w.alloc (.cells zeroH 47)).grownBy w5 (some rb)) (hok : okI p.1.2.2.2=true) (hsz : p.1.2.2.2.size≤10000) :
  HqX w rb w5.heap.size S p.2 (p.1.2.2.2,false) zeroH (.slice none 0 0) 0 [] ((w5.alloc (.cells #[.slice A n c,.bool false] 82)).alloc (.cells zeroH 47)):=by
 subst hn
 have hb : Below w.heap.size w (w.alloc (.cells zeroH 47)):=(Below.refl _ _).alloc (Nat.le_refl _) _
 have hz:=hg.size
 rw [World.size_alloc] at hz
 have hal : Below w5.heap.size w5 ((w5.alloc (.cells #[.slice A p.1.2.2.2.len c,.bool false] 82)).alloc (.cells zeroH 47)):=((Below.refl _ _).alloc (Nat.le_refl _) _).alloc (by simp) _
 have hS5 : ∀ g,S g→g < w5.heap.size:=fun g hg=>by have:=(hS g hg).1;omega
 refine ⟨(hal.block _ (by omega)).trans ((hg.block _ (by simp) (fun e=>by injection e;omega)).trans (heap_alloc_new w _)),(two_boxes w5 _ _).2,((gb_below hb).trans hg).trans (gb_below hal),by omega,by simp,ho.gb (gb_below (row:=none) hal) (fun g hgs=>⟨hS5 g hgs,by simp⟩) (by simp),⟨A,c,hc,hs.below hal hS5,(two_boxes w5 _ _).1⟩,hrb,hS,hok,hsz,OwnS.nil_ _ _⟩
def wrongQ (s : Its × Bool) : Bool:=s.2||decide (0 < s.1.len)
theorem nx_stay (k : Int) (l : Its) : (nxQ k l true).2.2=true:=by unfold nxQ;cases nxt k l<;>rfl
theorem nb_stay (l : Its) : (nbQ l true).2.2=true:=by unfold nbQ;cases rLst l<;>simp
theorem wrong_stay (s : Its × Bool) (h : s.2=true) : wrongQ s=true:=by unfold wrongQ;rw [h];rfl
theorem wrong_end (l : Its) : wrongQ (l,false)=!(rEnd l).isSome:=by
 unfold wrongQ rEnd
 by_cases h : l.len=0
 · simp [h]
 · simp [h];omega
theorem nx_txt0 {l : Its} {bad : Bool} (h : rTxt l=none) : (nxQ 1 l bad).2.2=true:=by
 unfold rTxt at h;unfold nxQ
 cases hx : nxt 1 l with
 | none=>rfl
 | some p=>rw [hx] at h;cases h
theorem nx_txt1 {l r : Its} {bad : Bool} {t : ByteArray} (h : rTxt l=some (t,r)) : (nxQ 1 l bad).1.2.2.1=t∧(nxQ 1 l bad).2.1=r∧(nxQ 1 l bad).2.2=bad:=by
 unfold rTxt at h;unfold nxQ
 cases hx : nxt 1 l with
 | none=>rw [hx] at h;cases h
 | some p=>rw [hx] at h;simp only [Option.some.injEq,Prod.mk.injEq] at h;exact ⟨h.1,h.2,rfl⟩
theorem nx_nat0 {l : Its} {bad : Bool} (h : rNat l=none) : (nxQ 0 l bad).2.2=true:=by
 unfold rNat at h;unfold nxQ
 cases hx : nxt 0 l with
 | none=>rfl
 | some p=>rw [hx] at h;cases h
theorem nx_nat1 {l r : Its} {bad : Bool} {t : ByteArray} (h : rNat l=some (t,r)) : (nxQ 0 l bad).1.2.1=t∧(nxQ 0 l bad).2.1=r∧(nxQ 0 l bad).2.2=bad:=by
 unfold rNat at h;unfold nxQ
 cases hx : nxt 0 l with
 | none=>rw [hx] at h;cases h
 | some p=>rw [hx] at h;simp only [Option.some.injEq,Prod.mk.injEq] at h;exact ⟨h.1,h.2,rfl⟩
theorem nx_lst0 {l : Its} {bad : Bool} (h : rLst l=none) : (nxQ 2 l bad).2.2=true:=by
 unfold rLst at h;unfold nxQ
 cases hx : nxt 2 l with
 | none=>rfl
 | some p=>rw [hx] at h;cases h
theorem nx_lst1 {l r b : Its} {bad : Bool} (h : rLst l=some (b,r)) : (nxQ 2 l bad).1.2.2.2=b∧(nxQ 2 l bad).2.1=r∧(nxQ 2 l bad).2.2=bad:=by
 unfold rLst at h;unfold nxQ
 cases hx : nxt 2 l with
 | none=>rw [hx] at h;cases h
 | some p=>rw [hx] at h;simp only [Option.some.injEq,Prod.mk.injEq] at h;exact ⟨h.1,h.2,rfl⟩
theorem nb_num0 {l : Its} {bad : Bool} (h : rNum l=none) : (nbQ l bad).2.2=true:=by
 unfold rNum at h;unfold nbQ
 cases hx : rLst l with
 | none=>rfl
 | some p =>
   rw [hx] at h
   dsimp only at h ⊢
   cases hn : numO p.1 with
   | none=>simp
   | some z=>rw [hn] at h;cases h
theorem nb_num1 {l r : Its} {bad : Bool} {z : Int} (h : rNum l=some (z,r)) : (nbQ l bad).1=z∧(nbQ l bad).2.1=r∧(nbQ l bad).2.2=bad:=by
 unfold rNum at h;unfold nbQ
 cases hx : rLst l with
 | none=>rw [hx] at h;cases h
 | some p =>
   rw [hx] at h
   dsimp only at h ⊢
   cases hn : numO p.1 with
   | none=>rw [hn] at h;cases h
   | some z=>rw [hn] at h;simp only [Option.some.injEq,Prod.mk.injEq] at h;simp [h.1,h.2]
theorem secret_law (l : Its) : secretO l=if wrongQ (nxQ 0 l false).2=true then none else some (nxQ 0 l false).1.2.1:=by
 unfold secretO
 cases h1 : rNat l with
 | none=>rw [if_pos (wrong_stay _ (nx_nat0 h1))]
 | some p =>
   obtain ⟨n,r⟩:=p
   obtain ⟨e1,e2,e3⟩:=nx_nat1 (bad:=false) h1
   have e : (nxQ 0 l false).2=(r,false):=Prod.ext e2 e3
   rw [e,wrong_end,e1]
   dsimp only
   cases rEnd r<;>rfl
theorem asked_law (l : Its) : askedO l=if wrongQ (askedS (l,false)).2=true then none else some (askedS (l,false)).1:=by
 unfold askedO askedS
 dsimp only
 cases h1 : rTxt l with
 | none=>rw [if_pos (wrong_stay _ (by rw [nx_txt0 h1];simp only [nx_stay]))]
 | some p =>
   obtain ⟨t1,r1⟩:=p
   obtain ⟨a1,a2,a3⟩:=nx_txt1 (bad:=false) h1
   simp only [a1,a2,a3]
   cases h2 : rTxt r1 with
   | none=>rw [if_pos (wrong_stay _ (by rw [nx_txt0 h2];simp only [nx_stay]))]
   | some p =>
     obtain ⟨t2,r2⟩:=p
     obtain ⟨b1,b2,b3⟩:=nx_txt1 (bad:=false) h2
     rw [b1,b2,b3]
     dsimp only
     cases h3 : rTxt r2 with
     | none=>rw [if_pos (wrong_stay _ (by rw [nx_txt0 h3];simp only [nx_stay]))]
     | some p =>
       obtain ⟨t3,r3⟩:=p
       obtain ⟨c1,c2,c3⟩:=nx_txt1 (bad:=false) h3
       rw [c1,c2,c3]
       dsimp only
       cases h4 : rNat r3 with
       | none=>rw [if_pos (wrong_stay _ (by rw [nx_nat0 h4];simp only [nx_stay]))]
       | some p =>
         obtain ⟨t4,r4⟩:=p
         obtain ⟨d1,d2,d3⟩:=nx_nat1 (bad:=false) h4
         rw [d1,d2,d3]
         dsimp only
         cases h5 : rNat r4 with
         | none=>rw [if_pos (wrong_stay _ (by rw [nx_nat0 h5]))]
         | some p =>
           obtain ⟨t5,r5⟩:=p
           obtain ⟨g1,g2,g3⟩:=nx_nat1 (bad:=false) h5
           have e : (nxQ 0 r4 false).2=(r5,false):=Prod.ext g2 g3
           rw [e,wrong_end,g1]
           dsimp only
           cases rEnd r5<;>rfl
theorem used_law (l : Its) : usedO l=if wrongQ (usedS (l,false)).2=true then none else some (usedS (l,false)).1:=by
 unfold usedO usedS
 dsimp only
 cases h1 : rTxt l with
 | none=>rw [if_pos (wrong_stay _ (by rw [nx_txt0 h1];simp only [nb_stay]))]
 | some p =>
   obtain ⟨t1,r1⟩:=p
   obtain ⟨a1,a2,a3⟩:=nx_txt1 (bad:=false) h1
   simp only [a1,a2,a3]
   cases h2 : rNum r1 with
   | none=>rw [if_pos (wrong_stay _ (by rw [nb_num0 h2];simp only [nb_stay]))]
   | some p =>
     obtain ⟨t2,r2⟩:=p
     obtain ⟨b1,b2,b3⟩:=nb_num1 (bad:=false) h2
     rw [b1,b2,b3]
     dsimp only
     cases h3 : rNum r2 with
     | none=>rw [if_pos (wrong_stay _ (by rw [nb_num0 h3]))]
     | some p =>
       obtain ⟨t3,r3⟩:=p
       obtain ⟨g1,g2,g3⟩:=nb_num1 (bad:=false) h3
       have e : (nbQ r2 false).2=(r3,false):=Prod.ext g2 g3
       rw [e,wrong_end,g1]
       dsimp only
       cases rEnd r3<;>rfl
theorem nats_law (b : Its) : natsO b=if badN b=true then none else some (natsN b):=by
 induction b with
 | nil=>rfl
 | cons k n t l r _ ih =>
   unfold natsO badN natsN
   by_cases hk : k=0
   · rw [if_pos hk,ih]
     simp only [hk,ne_eq,not_true,decide_false,Bool.false_or]
     by_cases hb : badN r=true
     · rw [if_pos hb,if_pos hb]
     · rw [if_neg hb,if_neg hb]
   · rw [if_neg hk]
     simp [hk]
theorem held_law (l : Its) (bad : Bool) : (rHeld l=none∧(heldS (l,bad)).2.2=true)∨∃ x r,rHeld l=some (x,r)∧heldS (l,bad)=(x,r,bad):=by
 unfold rHeld heldS
 dsimp only
 cases h0 : rLst l with
 | none=>exact .inl ⟨rfl,by rw [nx_lst0 h0];simp⟩
 | some p =>
   obtain ⟨b,r⟩:=p
   obtain ⟨z1,z2,z3⟩:=nx_lst1 (bad:=bad) h0
   rw [z1,z2,z3]
   dsimp only
   unfold heldC
   cases h1 : rTxt b with
   | none=>exact .inl ⟨rfl,by rw [nx_txt0 h1];simp only [nx_stay,nb_stay,Bool.true_or,Bool.or_true]⟩
   | some p =>
     obtain ⟨t1,r1⟩:=p
     obtain ⟨a1,a2,a3⟩:=nx_txt1 (bad:=false) h1
     rw [a1,a2,a3]
     dsimp only
     cases h2 : rTxt r1 with
     | none=>exact .inl ⟨rfl,by rw [nx_txt0 h2];simp only [nx_stay,nb_stay,Bool.true_or,Bool.or_true]⟩
     | some p =>
       obtain ⟨t2,r2⟩:=p
       obtain ⟨b1,b2,b3⟩:=nx_txt1 (bad:=false) h2
       rw [b1,b2,b3]
       dsimp only
       cases h3 : rNum r2 with
       | none=>exact .inl ⟨rfl,by rw [nb_num0 h3];simp only [nx_stay,nb_stay,Bool.true_or,Bool.or_true]⟩
       | some p =>
         obtain ⟨t3,r3⟩:=p
         obtain ⟨c1,c2,c3⟩:=nb_num1 (bad:=false) h3
         rw [c1,c2,c3]
         dsimp only
         unfold heldM
         cases h4 : rLst r3 with
         | none=>exact .inl ⟨rfl,by rw [nx_lst0 h4];simp only [nx_stay,nb_stay,Bool.true_or,Bool.or_true]⟩
         | some p =>
           obtain ⟨t4,r4⟩:=p
           obtain ⟨d1,d2,d3⟩:=nx_lst1 (bad:=false) h4
           rw [d1,d2,d3]
           dsimp only
           rw [nats_law]
           cases hb : badN t4 with
           | true=>exact .inl ⟨rfl,by simp only [nx_stay,nb_stay,Bool.true_or,Bool.or_true]⟩
           | false =>
             rw [if_neg (by decide)]
             dsimp only
             rw [Bool.or_false]
             unfold heldT
             cases h5 : rNat r4 with
             | none=>exact .inl ⟨rfl,by rw [nx_nat0 h5];simp only [nx_stay,nb_stay,Bool.true_or,Bool.or_true]⟩
             | some p =>
               obtain ⟨t5,r5⟩:=p
               obtain ⟨g1,g2,g3⟩:=nx_nat1 (bad:=false) h5
               rw [g1,g2,g3]
               dsimp only
               cases h6 : rNat r5 with
               | none=>exact .inl ⟨rfl,by rw [nx_nat0 h6];simp only [nx_stay,nb_stay,Bool.true_or,Bool.or_true]⟩
               | some p =>
                 obtain ⟨t6,r6⟩:=p
                 obtain ⟨i1,i2,i3⟩:=nx_nat1 (bad:=false) h6
                 rw [i1,i2,i3]
                 dsimp only
                 cases h7 : rNat r6 with
                 | none=>exact .inl ⟨rfl,by rw [nx_nat0 h7];simp only [nx_stay,nb_stay,Bool.true_or,Bool.or_true]⟩
                 | some p =>
                   obtain ⟨t7,r7⟩:=p
                   obtain ⟨j1,j2,j3⟩:=nx_nat1 (bad:=false) h7
                   rw [j1,j2,j3]
                   dsimp only
                   cases h8 : rNum r7 with
                   | none=>exact .inl ⟨rfl,by rw [nb_num0 h8];simp only [nx_stay,Bool.true_or,Bool.or_true]⟩
                   | some p =>
                     obtain ⟨t8,r8⟩:=p
                     obtain ⟨m1,m2,m3⟩:=nb_num1 (bad:=false) h8
                     rw [m1,m2,m3]
                     dsimp only
                     cases h9 : rNat r8 with
                     | none=>exact .inl ⟨rfl,by rw [nx_nat0 h9];simp only [Bool.true_or,Bool.or_true]⟩
                     | some p =>
                       obtain ⟨t9,r9⟩:=p
                       obtain ⟨q1,q2,q3⟩:=nx_nat1 (bad:=false) h9
                       rw [q1,q2,q3]
                       dsimp only
                       unfold rEnd
                       by_cases hz : r9.len=0
                       · rw [if_pos hz]
                         exact .inr ⟨_,_,rfl,by simp [hz]⟩
                       · rw [if_neg hz]
                         have : 0 < r9.len:=by omega
                         exact .inl ⟨rfl,by simp [this]⟩
theorem kept_law (l : Its) : keptO l=if wrongQ (heldS (l,false)).2=true then none else some (heldS (l,false)).1:=by
 unfold keptO
 rcases held_law l false with ⟨h1,h2⟩ | ⟨x,r,h1,h2⟩
 · rw [h1,if_pos (wrong_stay _ h2)]
 · rw [h1,h2,wrong_end]
   dsimp only
   cases rEnd r<;>rfl
theorem held_stay (l : Its) : (heldS (l,true)).2.2=true:=by
 rcases held_law l true with ⟨_,h2⟩ | ⟨x,r,_,h2⟩
 · exact h2
 · rw [h2]
noncomputable def heldSS (l : Its) : ByteArray × Hz × Its × Bool:=((nxQ 1 l false).1.2.2.1,heldS (nxQ 1 l false).2)
noncomputable def renewSS (l : Its) : Int × Hz × Its × Bool:=((nbQ l false).1,heldS (nbQ l false).2)
theorem heldO_law (l : Its) : heldO l=if wrongQ (heldSS l).2.2=true then none else some ((heldSS l).1,(heldSS l).2.1):=by
 unfold heldO heldSS
 dsimp only
 cases h1 : rTxt l with
 | none =>
   have e : (nxQ 1 l false).2=((nxQ 1 l false).2.1,true):=Prod.ext rfl (nx_txt0 h1)
   rw [e,if_pos (wrong_stay _ (held_stay _))]
 | some p =>
   obtain ⟨t1,r1⟩:=p
   obtain ⟨a1,a2,a3⟩:=nx_txt1 (bad:=false) h1
   have e : (nxQ 1 l false).2=(r1,false):=Prod.ext a2 a3
   rw [e,a1]
   dsimp only
   rw [kept_law]
   by_cases hw : wrongQ (heldS (r1,false)).2=true
   · rw [if_pos hw,if_pos hw]
   · rw [if_neg hw,if_neg hw]
theorem renewO_law (l : Its) : renewO l=if wrongQ (renewSS l).2.2=true then none else some ((renewSS l).1,(renewSS l).2.1):=by
 unfold renewO renewSS
 dsimp only
 cases h1 : rNum l with
 | none =>
   have e : (nbQ l false).2=((nbQ l false).2.1,true):=Prod.ext rfl (nb_num0 h1)
   rw [e,if_pos (wrong_stay _ (held_stay _))]
 | some p =>
   obtain ⟨t1,r1⟩:=p
   obtain ⟨a1,a2,a3⟩:=nb_num1 (bad:=false) h1
   have e : (nbQ l false).2=(r1,false):=Prod.ext a2 a3
   rw [e,a1]
   dsimp only
   rw [kept_law]
   by_cases hw : wrongQ (heldS (r1,false)).2=true
   · rw [if_pos hw,if_pos hw]
   · rw [if_neg hw,if_neg hw]
end Go.Proofs.YtjhlddlocpkhkaaGreat
namespace Go.Proofs.YtjhlddlocpkhkaaGreat
open Go.RowKit
set_option maxRecDepth 100000
set_option linter.unusedVariables false
set_option maxHeartbeats 16000000
theorem take_le : ∀ (l : Its) (i : Nat),(l.take i).len≤l.len
 | .nil,i=>by cases i<;>exact Nat.le_refl _
 | .cons k n t l r,0=>Nat.zero_le _
 | .cons k n t l r,i+1=>Nat.succ_le_succ (take_le r i)
def HeQ (w : World) (rb : Nat) (S : Nat→Prop) (p : Hz × Its × Bool) (o : Ending) (w' : World) : Prop :=
 ∃ A c,o=.returned (valH p.1 A p.1.att.length c)∧RowC w' (fun g=>w.heap.size≤g∧g < w'.heap.size) A p.1.att.length (cellsN p.1.att)∧InQ w' rb S p.2.1 p.2.2∧w.grownBy w' (some rb)
theorem r56_held (s : Its × Bool) (rb : Nat) (S : Nat→Prop) (w : World) (hin : InQ w rb S s.1 s.2) (hok : okI s.1=true) (hsz : s.1.size≤10000) (hS : ∀ g,S g→g < w.heap.size∧g≠rb) :
  Calls Tryz.prog 35 #[.pointer (some ⟨rb,0,none⟩)] w (HeQ w rb S (heldS s)):=by
 have hlt:=hin.lt
 have hbw : Below w.heap.size w (w.alloc (.cells zeroH 47)):=(Below.refl _ _).alloc (Nat.le_refl _) _
 obtain ⟨p0,hp0⟩ : ∃ p,nxQ 2 s.1 s.2=p:=⟨_,rfl⟩
 have E0:=Lib.hid hp0
 have hN:=r56_next 2 s.1 s.2 rb S (w.alloc (.cells zeroH 47)) (hin.gb (gb_below (row:=none) hbw) (fun g hg=>⟨(hS g hg).1,by simp⟩) (by simp)) (by have:=Its.len_size s.1;omega) (fun g hg=>⟨Nat.lt_of_lt_of_le (hS g hg).1 hbw.size,(hS g hg).2⟩)
 rw [hp0] at hN
 have HN:=Lib.hid hN
 unfold NqGot at HN
 have hko:=nxQ_ok 2 s.1 s.2 _ hok hsz
 rw [hp0] at hko
 have HST:=Lib.hid (fun (n c : Nat) (A : Option Addr) (w5 : World) (hn : p0.1.2.2.2.len=n) (h1 : p0.1.2.2.2.len≤c) (h2 : SlK w5 S A p0.1.2.2.2) (h3 : InQ w5 rb S p0.2.1 p0.2.2) (h4 : (w.alloc (.cells zeroH 47)).grownBy w5 (some rb))=>HqX.start hn hlt hS h1 h2 h3 h4 hko.2.1 hko.2.2)
 obtain ⟨p1,hp1⟩ : ∃ p,nxQ 1 p0.1.2.2.2 false=p:=⟨_,rfl⟩
 have E1:=Lib.hid hp1
 obtain ⟨p2,hp2⟩ : ∃ p,nxQ 1 p1.2.1 p1.2.2=p:=⟨_,rfl⟩
 have E2:=Lib.hid hp2
 obtain ⟨p3,hp3⟩ : ∃ p,nbQ p2.2.1 p2.2.2=p:=⟨_,rfl⟩
 have E3:=Lib.hid hp3
 obtain ⟨p4,hp4⟩ : ∃ p,nxQ 2 p3.2.1 p3.2.2=p:=⟨_,rfl⟩
 have E4:=Lib.hid hp4
 obtain ⟨p5,hp5⟩ : ∃ p,nxQ 0 p4.2.1 (p4.2.2||badN p4.1.2.2.2)=p:=⟨_,rfl⟩
 have E5:=Lib.hid hp5
 obtain ⟨p6,hp6⟩ : ∃ p,nxQ 0 p5.2.1 p5.2.2=p:=⟨_,rfl⟩
 have E6:=Lib.hid hp6
 obtain ⟨p7,hp7⟩ : ∃ p,nxQ 0 p6.2.1 p6.2.2=p:=⟨_,rfl⟩
 have E7:=Lib.hid hp7
 obtain ⟨p8,hp8⟩ : ∃ p,nbQ p7.2.1 p7.2.2=p:=⟨_,rfl⟩
 have E8:=Lib.hid hp8
 obtain ⟨p9,hp9⟩ : ∃ p,nxQ 0 p8.2.1 p8.2.2=p:=⟨_,rfl⟩
 have E9:=Lib.hid hp9
 have H6:=Lib.hid (show p4.1.2.2.2.size≤10000 by
  have k1:=nxQ_ok 1 p0.1.2.2.2 false _ hko.2.1 hko.2.2
  rw [hp1] at k1
  have k2:=nxQ_ok 1 p1.2.1 p1.2.2 _ k1.1.1 k1.1.2
  rw [hp2] at k2
  have k3:=nbQ_ok p2.2.1 p2.2.2 _ k2.1.1 k2.1.2
  rw [hp3] at k3
  have k4:=nxQ_ok 2 p3.2.1 p3.2.2 _ k3.1 k3.2
  rw [hp4] at k4
  exact k4.2.2)
 obtain ⟨P,hP⟩ : ∃ P,heldS s=P:=⟨_,rfl⟩
 rw [hP]
 have HP:=Lib.hid hP
 have hf1:=fld_1
 have hf2:=fld_2
 have hf3:=fld_3
 clear hin hok hsz hS hlt hbw hN hko hP hp0 hp1 hp2 hp3 hp4 hp5 hp6 hp7 hp8 hp9
 go_enter Tryz.func35, Tryz.ntmps35
 go_upto_region 3 with (go_at_call 30;(with_reducible refine HN.out.mono ?_);rintro o w5 ⟨A1,c1,rfl,h1,h2,h3,h4⟩;have HX0:=Lib.hid (HST.out _ c1 A1 w5 rfl h1 h2 h3 h4);clear h1 h2 h3 h4)
 have hal1:=World.size_alloc w5 (.cells #[.slice A1 p0.1.2.2.2.len c1,.bool false] 82)
 obtain ⟨W1,hW1⟩ : ∃ W1,((w5.alloc (.cells #[.slice A1 p0.1.2.2.2.len c1,.bool false] 82)).alloc (.cells zeroH 47))=W1:=⟨_,rfl⟩
 obtain ⟨r1,hr1⟩ : ∃ r1,w5.heap.size=r1:=⟨_,rfl⟩
 rw [hW1] at HX0 ⊢
 rw [hr1] at HX0 ⊢
 clear hW1 hr1 hal1 HST HN
 have HC1:=Lib.hid (hx_next 1 p1 E1.out HX0.out)
 go_upto_region 7 with (first
  | (go_at_call 30;(with_reducible refine HC1.out.mono ?_);rintro o w6 ⟨_,_,rfl,h6,_⟩;have y0:=cell_of_row _ _ 0 _ _ _ h6.held;have g0:=frozen_of_row _ _ 0 _ _ h6.held;have HC2:=Lib.hid (hx_next 1 p2 E2.out (h6.put 0 (.string p1.1.2.2.1) #[.string p1.1.2.2.1,.string ⟨#[]⟩,.int .i64 0,.slice none 0 0,.string ⟨#[]⟩,.string ⟨#[]⟩,.string ⟨#[]⟩,.int .i64 0,.string ⟨#[]⟩] rfl));clear h6 HC1)
  | (go_at_call 30;(with_reducible refine HC2.out.mono ?_);rintro o w7 ⟨_,_,rfl,h7,_⟩;have y1:=cell_of_row _ _ 1 _ _ _ h7.held;have g1:=frozen_of_row _ _ 1 _ _ h7.held;have HC3:=Lib.hid (hx_number p3 E3.out (h7.put 1 (.string p2.1.2.2.1) #[.string p1.1.2.2.1,.string p2.1.2.2.1,.int .i64 0,.slice none 0 0,.string ⟨#[]⟩,.string ⟨#[]⟩,.string ⟨#[]⟩,.int .i64 0,.string ⟨#[]⟩] rfl));clear h7 HC2)
  | (go_at_call 37;(with_reducible refine HC3.out.mono ?_);rintro o w8 ⟨rfl,h8⟩;have y2:=cell_of_row _ _ 2 _ _ _ h8.held;have g2:=frozen_of_row _ _ 2 _ _ h8.held;have HC4:=Lib.hid (hx_next 2 p4 E4.out (h8.put 2 (.int .i64 p3.1) #[.string p1.1.2.2.1,.string p2.1.2.2.1,.int .i64 p3.1,.slice none 0 0,.string ⟨#[]⟩,.string ⟨#[]⟩,.string ⟨#[]⟩,.int .i64 0,.string ⟨#[]⟩] rfl));clear h8 HC3))
 obtain ⟨W5,hW5⟩ : ∃ W5,w8.setCell ⟨r1+1,2,none⟩ (.int .i64 p3.1)=W5:=⟨_,rfl⟩
 rw [hW5] at HC4 ⊢
 clear hW5 y0 y1 y2 g0 g1 g2 HX0
 unfold HqN at HC4
 obtain ⟨l,hl⟩ : ∃ l,p4.1.2.2.2=l:=⟨_,rfl⟩
 have HL:=Lib.hid hl
 rw [hl] at HC4 H6
 go_wp2_with (go_at_call 30;(with_reducible refine HC4.out.mono ?_);rintro o w9 ⟨A9,c9,rfl,h9,hs9⟩;have HSL:=Lib.hid hs9;have HX9:=Lib.hid h9;clear h9 hs9 HC4)
 clear hl
 go_loopw [7] (fun v7 wr=>∃ (i : Nat) (d : List ByteArray) (bd : Bool) (A : Option Addr) (c : Nat),v7=.int .i64 (i : Int)∧i≤l.len∧d=natsN (l.take i)∧bd=(p4.2.2||badN (l.take i))∧HqX w rb r1 S p0.2 (p4.2.1,bd) #[.string p1.1.2.2.1,.string p2.1.2.2.1,.int .i64 p3.1,.slice A d.length c,.string ⟨#[]⟩,.string ⟨#[]⟩,.string ⟨#[]⟩,.int .i64 0,.string ⟨#[]⟩] (.slice A d.length c) d.length d wr) (fun v7 _=>l.len - (intOf v7).toNat)
 case atStart=>exact ⟨0,[],p4.2.2,none,0,rfl,Nat.zero_le _,by rw [Its.take_zero];rfl,by rw [Its.take_zero];simp [badN],HX9.out⟩
 case round =>
  obtain ⟨i,d,bd,A,c,rfl,hi,hd,hbd,hx⟩:=hrel
  have HD:=Lib.hid hd
  have HBD:=Lib.hid hbd
  have HX:=Lib.hid hx
  have HDL:=Lib.hid (show d.length+1≤100000 by rw [hd,natsN_len];have h1:=Its.len_size l;have h2:=H6.out;have h3 : (l.take i).len≤l.len:=take_le l i;omega)
  have x3:=cell_of_row _ _ 3 _ _ _ hx.held
  have l1:=hx.size
  have l9 : l.len≤10000:=Nat.le_trans (Its.len_size l) H6.out
  clear hd hbd hx HX9
  by_cases hlt : i < l.len
  · obtain ⟨y,hy⟩:=Its.get_lt hlt
    have HTK:=Lib.hid (Its.take_succ hy)
    obtain ⟨g,off,A',c',rfl,-,y0,y1,-,-,-⟩:=(HX.out.forth HSL.out).at_ hy
    have HYC:=Lib.hid (fun (W : World) (t s : Its × Bool) (hv : Array Value) (v : Value) (n : Nat) (d : List ByteArray) (h : HqX w rb r1 S t s hv v n d W)=>(show W.cell? ⟨g,off+i*4+1,none⟩=some (.string y.2.1) by
     obtain ⟨g2,off2,_,_,e,_,_,q,_⟩:=(h.forth HSL.out).at_ hy
     injection e with e
     injection e with e1 e2
     subst e1 e2
     exact q))
    have HLT:=Lib.hid hlt
    have hil : (i : Int) < (l.len : Int):=by omega
    have k1 : decide ((i : Int) < (l.len : Int))=true:=decide_eq_true (by omega)
    have k3 : (0 : Int)≤(i : Int):=by omega
    obtain ⟨yk,yn,yt,yl⟩:=y
    dsimp only at y0 y1 HYC
    clear hy hlt
    have HNX : Hid (d++[yn]=natsN (l.take (i+1))):=Lib.hid (by rw [HTK.out,natsN_app,← HD.out];rfl)
    have HBX : Hid ((bd||decide (yk≠0))=(p4.2.2||badN (l.take (i+1)))):=Lib.hid (by rw [HTK.out,badN_app,← Bool.or_assoc,← HBD.out];show _=(bd||(decide (yk≠0)||false));rw [Bool.or_false])
    by_cases hk : yk=0
    · subst hk
      go_upto_region 13 with fail
      go_region_law (refine step_append_N1 rfl (.tmp 54) (.tmp 60) rfl (r1+2) (.slice A d.length c) d.length d (by simp [Act.eval]) (by first | exact (HX.out.alloc _).row | exact (HX.out.drew.alloc _).row | exact ((HX.out.alloc _).drew).row | exact ((HX.out.drew.alloc _).drew).row) yn wr.heap.size 1 (by simp [Act.eval]) (by exact heap_alloc_new wr _) HDL.out (by have:=HX.out.size;simp;omega) ?_;intro v7 w7 hown hg;obtain ⟨A7,c7,rfl,_⟩:=hown.form (Nat.le_trans (by have:=HX.out.size;simp;omega) hg.size);have H7:=Lib.hid (HqX.app (show HqX w rb r1 S p0.2 (p4.2.1,bd) #[.string p1.1.2.2.1,.string p2.1.2.2.1,.int .i64 p3.1,.slice A d.length c,.string ⟨#[]⟩,.string ⟨#[]⟩,.string ⟨#[]⟩,.int .i64 0,.string ⟨#[]⟩] (.slice A d.length c) d.length d _ from (by first | exact HX.out.alloc _ | exact HX.out.drew.alloc _ | exact (HX.out.alloc _).drew | exact (HX.out.drew.alloc _).drew)) hg hown);have q7:=cell_of_row _ _ 3 _ _ _ H7.out.held;have g7:=frozen_of_row _ _ 3 _ _ H7.out.held;clear hown hg)
      all_goals
       have HPT:=Lib.hid (H7.out.put 3 (.slice A7 (d.length+1) c7) #[.string p1.1.2.2.1,.string p2.1.2.2.1,.int .i64 p3.1,.slice A7 (d.length+1) c7,.string ⟨#[]⟩,.string ⟨#[]⟩,.string ⟨#[]⟩,.int .i64 0,.string ⟨#[]⟩] rfl)
       go_wp2_with fail
       go_roundw
       case rel =>
        have e : (d++[yn]).length=d.length+1:=by simp
        exact ⟨i+1,d++[yn],bd,A7,c7,by go_num,HLT.out,HNX.out,by rw [← HBX.out];simp,by rw [e];exact HPT.out⟩
       case measure=>have:=HLT.out;simp only [intOf];omega
    · have k4 : (yk != 0)=true:=by rw [bne_iff_ne];exact hk
      have HK4:=Lib.hid hk
      have HXB:=Lib.hid HX.out.bad
      obtain ⟨Aq,cq,_,_,hq3⟩:=HX.out.inn
      obtain ⟨-,-,b1,fb1⟩:=hq3.cells
      clear hk hq3
      go_upto_region 13 with fail
      obtain ⟨wq,hwq⟩ : ∃ wq,wr.setCell ⟨r1,1,none⟩ (.bool true)=wq:=⟨_,rfl⟩
      rw [hwq] at HXB ⊢
      have y1:=HYC.out _ _ _ _ _ _ _ HXB.out
      have x3:=cell_of_row _ _ 3 _ _ _ HXB.out.held
      have l1:=HXB.out.size
      clear b1 fb1
      go_region_law (refine step_append_N1 rfl (.tmp 54) (.tmp 60) rfl (r1+2) (.slice A d.length c) d.length d (by simp [Act.eval]) (by first | exact (HXB.out.alloc _).row | exact (HXB.out.drew.alloc _).row | exact ((HXB.out.alloc _).drew).row | exact ((HXB.out.drew.alloc _).drew).row) yn wq.heap.size 1 (by simp [Act.eval]) (by exact heap_alloc_new wq _) HDL.out (by have:=HXB.out.size;simp;omega) ?_;intro v7 w7 hown hg;obtain ⟨A7,c7,rfl,_⟩:=hown.form (Nat.le_trans (by have:=HXB.out.size;simp;omega) hg.size);have H7:=Lib.hid (HqX.app (show HqX w rb r1 S p0.2 (p4.2.1,true) #[.string p1.1.2.2.1,.string p2.1.2.2.1,.int .i64 p3.1,.slice A d.length c,.string ⟨#[]⟩,.string ⟨#[]⟩,.string ⟨#[]⟩,.int .i64 0,.string ⟨#[]⟩] (.slice A d.length c) d.length d _ from (by first | exact HXB.out.alloc _ | exact HXB.out.drew.alloc _ | exact (HXB.out.alloc _).drew | exact (HXB.out.drew.alloc _).drew)) hg hown);have q7:=cell_of_row _ _ 3 _ _ _ H7.out.held;have g7:=frozen_of_row _ _ 3 _ _ H7.out.held;clear hown hg)
      all_goals
       have HPT:=Lib.hid (H7.out.put 3 (.slice A7 (d.length+1) c7) #[.string p1.1.2.2.1,.string p2.1.2.2.1,.int .i64 p3.1,.slice A7 (d.length+1) c7,.string ⟨#[]⟩,.string ⟨#[]⟩,.string ⟨#[]⟩,.int .i64 0,.string ⟨#[]⟩] rfl)
       go_wp2_with fail
       go_roundw
       case rel =>
        have e : (d++[yn]).length=d.length+1:=by simp
        exact ⟨i+1,d++[yn],true,A7,c7,by go_num,HLT.out,HNX.out,by rw [← HBX.out,decide_eq_true HK4.out];simp,by rw [e];exact HPT.out⟩
       case measure=>have:=HLT.out;simp only [intOf];omega
  · obtain rfl : i=l.len:=by omega
    have k1 : decide ((l.len : Int) < (l.len : Int))=false:=decide_eq_false (by omega)
    have HF : Hid (natsN l=d):=Lib.hid (by rw [HD.out,Its.take_all l (Nat.le_refl _)])
    have HFB : Hid ((p4.2.2||badN l)=bd):=Lib.hid (by rw [HBD.out,Its.take_all l (Nat.le_refl _)])
    have e5 : nxQ 0 p4.2.1 bd=p5:=by rw [← HFB.out,← HL.out];exact E5.out
    have HC5:=Lib.hid (hx_next 0 p5 e5 HX.out)
    clear e5 hlt x3
    go_upto_region 14 with fail
    go_upto_region 19 with (first
     | (go_at_call 30;(with_reducible refine HC5.out.mono ?_);rintro o w6 ⟨_,_,rfl,h6,_⟩;have y4:=cell_of_row _ _ 4 _ _ _ h6.held;have g4:=frozen_of_row _ _ 4 _ _ h6.held;have HC6:=Lib.hid (hx_next 0 p6 E6.out (h6.put 4 (.string p5.1.2.1) #[.string p1.1.2.2.1,.string p2.1.2.2.1,.int .i64 p3.1,.slice A d.length c,.string p5.1.2.1,.string ⟨#[]⟩,.string ⟨#[]⟩,.int .i64 0,.string ⟨#[]⟩] rfl));clear h6 HC5)
     | (go_at_call 30;(with_reducible refine HC6.out.mono ?_);rintro o w7 ⟨_,_,rfl,h7,_⟩;have y5:=cell_of_row _ _ 5 _ _ _ h7.held;have g5:=frozen_of_row _ _ 5 _ _ h7.held;have HC7:=Lib.hid (hx_next 0 p7 E7.out (h7.put 5 (.string p6.1.2.1) #[.string p1.1.2.2.1,.string p2.1.2.2.1,.int .i64 p3.1,.slice A d.length c,.string p5.1.2.1,.string p6.1.2.1,.string ⟨#[]⟩,.int .i64 0,.string ⟨#[]⟩] rfl));clear h7 HC6)
     | (go_at_call 30;(with_reducible refine HC7.out.mono ?_);rintro o w8 ⟨_,_,rfl,h8,_⟩;have y6:=cell_of_row _ _ 6 _ _ _ h8.held;have g6:=frozen_of_row _ _ 6 _ _ h8.held;have HC8:=Lib.hid (hx_number p8 E8.out (h8.put 6 (.string p7.1.2.1) #[.string p1.1.2.2.1,.string p2.1.2.2.1,.int .i64 p3.1,.slice A d.length c,.string p5.1.2.1,.string p6.1.2.1,.string p7.1.2.1,.int .i64 0,.string ⟨#[]⟩] rfl));clear h8 HC7)
     | (go_at_call 37;(with_reducible refine HC8.out.mono ?_);rintro o w10 ⟨rfl,h10⟩;have y7:=cell_of_row _ _ 7 _ _ _ h10.held;have g7:=frozen_of_row _ _ 7 _ _ h10.held;have HC9:=Lib.hid (hx_next 0 p9 E9.out (h10.put 7 (.int .i64 p8.1) #[.string p1.1.2.2.1,.string p2.1.2.2.1,.int .i64 p3.1,.slice A d.length c,.string p5.1.2.1,.string p6.1.2.1,.string p7.1.2.1,.int .i64 p8.1,.string ⟨#[]⟩] rfl));clear h10 HC8)
     | (go_at_call 30;(with_reducible refine HC9.out.mono ?_);rintro o w11 ⟨_,_,rfl,h11,_⟩;have y8:=cell_of_row _ _ 8 _ _ _ h11.held;have g8:=frozen_of_row _ _ 8 _ _ h11.held;have HZ:=Lib.hid (h11.put 8 (.string p9.1.2.1) #[.string p1.1.2.2.1,.string p2.1.2.2.1,.int .i64 p3.1,.slice A d.length c,.string p5.1.2.1,.string p6.1.2.1,.string p7.1.2.1,.int .i64 p8.1,.string p9.1.2.1] rfl);clear h11 HC9))
    obtain ⟨W8,hW8⟩ : ∃ W8,w11.setCell ⟨r1+1,8,none⟩ (.string p9.1.2.1)=W8:=⟨_,rfl⟩
    rw [hW8] at HZ ⊢
    clear hW8 y4 y5 y6 y7 y8 g4 g5 g6 g7 g8
    obtain ⟨Ao,co,_,_,ho3⟩:=HZ.out.out
    obtain ⟨Ai,ci,_,_,hi3⟩:=HZ.out.inn
    obtain ⟨b0,hb0⟩ : ∃ b,p0.2.2=b:=⟨_,rfl⟩
    obtain ⟨b9,hb9⟩ : ∃ b,p9.2.2=b:=⟨_,rfl⟩
    obtain ⟨m,hm⟩ : ∃ m,p9.2.1.len=m:=⟨_,rfl⟩
    have HB0:=Lib.hid hb0
    have HB9:=Lib.hid hb9
    have HM:=Lib.hid hm
    rw [hb0] at ho3
    rw [hb9,hm] at hi3
    have HRB:=Lib.hid (And.intro HZ.out.rlt (And.intro HZ.out.le HZ.out.size))
    have HCE : Hid (∀ b : Bool,(W8.setCell ⟨rb,1,none⟩ (.bool b)).heap[w.heap.size]?=some (.cells zeroH 47 (0,0))∧(W8.setCell ⟨rb,1,none⟩ (.bool b)).heap[r1+1]?=some (.cells #[.string p1.1.2.2.1,.string p2.1.2.2.1,.int .i64 p3.1,.slice A d.length c,.string p5.1.2.1,.string p6.1.2.1,.string p7.1.2.1,.int .i64 p8.1,.string p9.1.2.1] 47 (0,0))):=Lib.hid (fun b=>by
     have h1:=HRB.out
     exact ⟨(heap_setCell_other _ _ _ _ (show w.heap.size≠rb by omega)).trans HZ.out.res,(heap_setCell_other _ _ _ _ (show r1+1≠rb by omega)).trans HZ.out.held⟩)
    obtain ⟨-,-,c1,f1⟩:=ho3.cells
    obtain ⟨d0,-,d1,-⟩:=hi3.cells
    clear ho3 hi3 hb0 hb9 hm
    have HMM : Hid (∀ b : Bool,(b0||b9||decide (0 < m))=b→heldS s=(⟨p1.1.2.2.1,p2.1.2.2.1,p3.1,d,p5.1.2.1,p6.1.2.1,p7.1.2.1,p8.1,p9.1.2.1⟩,p0.2.1,b)):=Lib.hid (fun b hb=>by
     have e5 : nxQ 0 p4.2.1 (p4.2.2||badN l)=p5:=by rw [← HL.out];exact E5.out
     unfold heldS
     simp only [E0.out,E1.out,E2.out,E3.out,E4.out,HL.out,e5,E6.out,E7.out,E8.out,E9.out,HF.out,HB0.out,HB9.out,HM.out,hb])
    have hcase : ∃ b : Bool,(b0||b9||decide (0 < m))=b:=⟨_,rfl⟩
    clear hcase
    cases b0<;>cases b9<;>by_cases h0 : 0 < m
    · have i2 : decide ((0 : Int) < (m : Int))=true:=decide_eq_true (by omega)
      have i3 : decide (0 < m)=true:=decide_eq_true h0
      have HE:=Lib.hid (HMM.out true (by rw [decide_eq_true h0];rfl))
      rw [HP.out] at HE
      have HC:=Lib.hid (HCE.out true)
      clear h0 HMM HCE
      have hf : ∀ W,(W8.setCell ⟨rb,1,none⟩ (.bool true)).grownBy W (some w.heap.size)→HeQ w rb S P (.returned (valH ⟨p1.1.2.2.1,p2.1.2.2.1,p3.1,d,p5.1.2.1,p6.1.2.1,p7.1.2.1,p8.1,p9.1.2.1⟩ A d.length c)) W:=fun W hg=>by rw [HE.out];exact ⟨A,c,rfl,HZ.out.fin true hg⟩
      have HFN:=Lib.hid hf
      clear hf
      go_upto_region 20 with fail
      obtain ⟨WZ,hWZ⟩ : ∃ WZ,W8.setCell ⟨rb,1,none⟩ (.bool true)=WZ:=⟨_,rfl⟩
      rw [hWZ] at HC HFN ⊢
      clear hWZ c1 f1 d0 d1
      have hby:=HC.out.1
      have hbx:=HC.out.2
      have e0:=cell_of_row _ _ 0 _ _ _ hbx
      have g0:=frozen_of_row _ _ 0 _ _ hby
      have t0:=cell_of_row _ _ 0 _ _ _ hby
      have e1:=cell_of_row _ _ 1 _ _ _ hbx
      have g1:=frozen_of_row _ _ 1 _ _ hby
      have t1:=cell_of_row _ _ 1 _ _ _ hby
      have e2:=cell_of_row _ _ 2 _ _ _ hbx
      have g2:=frozen_of_row _ _ 2 _ _ hby
      have t2:=cell_of_row _ _ 2 _ _ _ hby
      have e3:=cell_of_row _ _ 3 _ _ _ hbx
      have g3:=frozen_of_row _ _ 3 _ _ hby
      have t3:=cell_of_row _ _ 3 _ _ _ hby
      have e4:=cell_of_row _ _ 4 _ _ _ hbx
      have g4:=frozen_of_row _ _ 4 _ _ hby
      have t4:=cell_of_row _ _ 4 _ _ _ hby
      have e5:=cell_of_row _ _ 5 _ _ _ hbx
      have g5:=frozen_of_row _ _ 5 _ _ hby
      have t5:=cell_of_row _ _ 5 _ _ _ hby
      have e6:=cell_of_row _ _ 6 _ _ _ hbx
      have g6:=frozen_of_row _ _ 6 _ _ hby
      have t6:=cell_of_row _ _ 6 _ _ _ hby
      have e7:=cell_of_row _ _ 7 _ _ _ hbx
      have g7:=frozen_of_row _ _ 7 _ _ hby
      have t7:=cell_of_row _ _ 7 _ _ _ hby
      have e8:=cell_of_row _ _ 8 _ _ _ hbx
      have g8:=frozen_of_row _ _ 8 _ _ hby
      have t8:=cell_of_row _ _ 8 _ _ _ hby
      clear hbx hby
      go_wp2_with fail
      refine bodyPost_ret (v:=.agg #[.string p1.1.2.2.1,.string p2.1.2.2.1,.int .i64 p3.1,.slice A d.length c,.string p5.1.2.1,.string p6.1.2.1,.string p7.1.2.1,.int .i64 p8.1,.string p9.1.2.1]) (by simp [results,Tryz.results35,go_sem,t0,t1,t2,t3,t4,t5,t6,t7,t8]) rfl ?_
      exact HFN.out _ ((((((((gb_set.trans gb_set).trans gb_set).trans gb_set).trans gb_set).trans gb_set).trans gb_set).trans gb_set).trans gb_set)
    · have i2 : decide ((0 : Int) < (m : Int))=false:=decide_eq_false (by omega)
      have i3 : decide (0 < m)=false:=decide_eq_false h0
      have HE:=Lib.hid (HMM.out false (by rw [decide_eq_false h0];rfl))
      rw [HP.out] at HE
      have HC:=Lib.hid (HCE.out false)
      clear h0 HMM HCE
      have hf : ∀ W,(W8.setCell ⟨rb,1,none⟩ (.bool false)).grownBy W (some w.heap.size)→HeQ w rb S P (.returned (valH ⟨p1.1.2.2.1,p2.1.2.2.1,p3.1,d,p5.1.2.1,p6.1.2.1,p7.1.2.1,p8.1,p9.1.2.1⟩ A d.length c)) W:=fun W hg=>by rw [HE.out];exact ⟨A,c,rfl,HZ.out.fin false hg⟩
      have HFN:=Lib.hid hf
      clear hf
      go_upto_region 20 with fail
      obtain ⟨WZ,hWZ⟩ : ∃ WZ,W8.setCell ⟨rb,1,none⟩ (.bool false)=WZ:=⟨_,rfl⟩
      rw [hWZ] at HC HFN ⊢
      clear hWZ c1 f1 d0 d1
      have hby:=HC.out.1
      have hbx:=HC.out.2
      have e0:=cell_of_row _ _ 0 _ _ _ hbx
      have g0:=frozen_of_row _ _ 0 _ _ hby
      have t0:=cell_of_row _ _ 0 _ _ _ hby
      have e1:=cell_of_row _ _ 1 _ _ _ hbx
      have g1:=frozen_of_row _ _ 1 _ _ hby
      have t1:=cell_of_row _ _ 1 _ _ _ hby
      have e2:=cell_of_row _ _ 2 _ _ _ hbx
      have g2:=frozen_of_row _ _ 2 _ _ hby
      have t2:=cell_of_row _ _ 2 _ _ _ hby
      have e3:=cell_of_row _ _ 3 _ _ _ hbx
      have g3:=frozen_of_row _ _ 3 _ _ hby
      have t3:=cell_of_row _ _ 3 _ _ _ hby
      have e4:=cell_of_row _ _ 4 _ _ _ hbx
      have g4:=frozen_of_row _ _ 4 _ _ hby
      have t4:=cell_of_row _ _ 4 _ _ _ hby
      have e5:=cell_of_row _ _ 5 _ _ _ hbx
      have g5:=frozen_of_row _ _ 5 _ _ hby
      have t5:=cell_of_row _ _ 5 _ _ _ hby
      have e6:=cell_of_row _ _ 6 _ _ _ hbx
      have g6:=frozen_of_row _ _ 6 _ _ hby
      have t6:=cell_of_row _ _ 6 _ _ _ hby
      have e7:=cell_of_row _ _ 7 _ _ _ hbx
      have g7:=frozen_of_row _ _ 7 _ _ hby
      have t7:=cell_of_row _ _ 7 _ _ _ hby
      have e8:=cell_of_row _ _ 8 _ _ _ hbx
      have g8:=frozen_of_row _ _ 8 _ _ hby
      have t8:=cell_of_row _ _ 8 _ _ _ hby
      clear hbx hby
      go_wp2_with fail
      refine bodyPost_ret (v:=.agg #[.string p1.1.2.2.1,.string p2.1.2.2.1,.int .i64 p3.1,.slice A d.length c,.string p5.1.2.1,.string p6.1.2.1,.string p7.1.2.1,.int .i64 p8.1,.string p9.1.2.1]) (by simp [results,Tryz.results35,go_sem,t0,t1,t2,t3,t4,t5,t6,t7,t8]) rfl ?_
      exact HFN.out _ ((((((((gb_set.trans gb_set).trans gb_set).trans gb_set).trans gb_set).trans gb_set).trans gb_set).trans gb_set).trans gb_set)
    · have i2 : decide ((0 : Int) < (m : Int))=true:=decide_eq_true (by omega)
      have i3 : decide (0 < m)=true:=decide_eq_true h0
      have HE:=Lib.hid (HMM.out true (by rw [decide_eq_true h0];rfl))
      rw [HP.out] at HE
      have HC:=Lib.hid (HCE.out true)
      clear h0 HMM HCE
      have hf : ∀ W,(W8.setCell ⟨rb,1,none⟩ (.bool true)).grownBy W (some w.heap.size)→HeQ w rb S P (.returned (valH ⟨p1.1.2.2.1,p2.1.2.2.1,p3.1,d,p5.1.2.1,p6.1.2.1,p7.1.2.1,p8.1,p9.1.2.1⟩ A d.length c)) W:=fun W hg=>by rw [HE.out];exact ⟨A,c,rfl,HZ.out.fin true hg⟩
      have HFN:=Lib.hid hf
      clear hf
      go_upto_region 20 with fail
      obtain ⟨WZ,hWZ⟩ : ∃ WZ,W8.setCell ⟨rb,1,none⟩ (.bool true)=WZ:=⟨_,rfl⟩
      rw [hWZ] at HC HFN ⊢
      clear hWZ c1 f1 d0 d1
      have hby:=HC.out.1
      have hbx:=HC.out.2
      have e0:=cell_of_row _ _ 0 _ _ _ hbx
      have g0:=frozen_of_row _ _ 0 _ _ hby
      have t0:=cell_of_row _ _ 0 _ _ _ hby
      have e1:=cell_of_row _ _ 1 _ _ _ hbx
      have g1:=frozen_of_row _ _ 1 _ _ hby
      have t1:=cell_of_row _ _ 1 _ _ _ hby
      have e2:=cell_of_row _ _ 2 _ _ _ hbx
      have g2:=frozen_of_row _ _ 2 _ _ hby
      have t2:=cell_of_row _ _ 2 _ _ _ hby
      have e3:=cell_of_row _ _ 3 _ _ _ hbx
      have g3:=frozen_of_row _ _ 3 _ _ hby
      have t3:=cell_of_row _ _ 3 _ _ _ hby
      have e4:=cell_of_row _ _ 4 _ _ _ hbx
      have g4:=frozen_of_row _ _ 4 _ _ hby
      have t4:=cell_of_row _ _ 4 _ _ _ hby
      have e5:=cell_of_row _ _ 5 _ _ _ hbx
      have g5:=frozen_of_row _ _ 5 _ _ hby
      have t5:=cell_of_row _ _ 5 _ _ _ hby
      have e6:=cell_of_row _ _ 6 _ _ _ hbx
      have g6:=frozen_of_row _ _ 6 _ _ hby
      have t6:=cell_of_row _ _ 6 _ _ _ hby
      have e7:=cell_of_row _ _ 7 _ _ _ hbx
      have g7:=frozen_of_row _ _ 7 _ _ hby
      have t7:=cell_of_row _ _ 7 _ _ _ hby
      have e8:=cell_of_row _ _ 8 _ _ _ hbx
      have g8:=frozen_of_row _ _ 8 _ _ hby
      have t8:=cell_of_row _ _ 8 _ _ _ hby
      clear hbx hby
      go_wp2_with fail
      refine bodyPost_ret (v:=.agg #[.string p1.1.2.2.1,.string p2.1.2.2.1,.int .i64 p3.1,.slice A d.length c,.string p5.1.2.1,.string p6.1.2.1,.string p7.1.2.1,.int .i64 p8.1,.string p9.1.2.1]) (by simp [results,Tryz.results35,go_sem,t0,t1,t2,t3,t4,t5,t6,t7,t8]) rfl ?_
      exact HFN.out _ ((((((((gb_set.trans gb_set).trans gb_set).trans gb_set).trans gb_set).trans gb_set).trans gb_set).trans gb_set).trans gb_set)
    · have i2 : decide ((0 : Int) < (m : Int))=false:=decide_eq_false (by omega)
      have i3 : decide (0 < m)=false:=decide_eq_false h0
      have HE:=Lib.hid (HMM.out true (by rw [decide_eq_false h0];rfl))
      rw [HP.out] at HE
      have HC:=Lib.hid (HCE.out true)
      clear h0 HMM HCE
      have hf : ∀ W,(W8.setCell ⟨rb,1,none⟩ (.bool true)).grownBy W (some w.heap.size)→HeQ w rb S P (.returned (valH ⟨p1.1.2.2.1,p2.1.2.2.1,p3.1,d,p5.1.2.1,p6.1.2.1,p7.1.2.1,p8.1,p9.1.2.1⟩ A d.length c)) W:=fun W hg=>by rw [HE.out];exact ⟨A,c,rfl,HZ.out.fin true hg⟩
      have HFN:=Lib.hid hf
      clear hf
      go_upto_region 20 with fail
      obtain ⟨WZ,hWZ⟩ : ∃ WZ,W8.setCell ⟨rb,1,none⟩ (.bool true)=WZ:=⟨_,rfl⟩
      rw [hWZ] at HC HFN ⊢
      clear hWZ c1 f1 d0 d1
      have hby:=HC.out.1
      have hbx:=HC.out.2
      have e0:=cell_of_row _ _ 0 _ _ _ hbx
      have g0:=frozen_of_row _ _ 0 _ _ hby
      have t0:=cell_of_row _ _ 0 _ _ _ hby
      have e1:=cell_of_row _ _ 1 _ _ _ hbx
      have g1:=frozen_of_row _ _ 1 _ _ hby
      have t1:=cell_of_row _ _ 1 _ _ _ hby
      have e2:=cell_of_row _ _ 2 _ _ _ hbx
      have g2:=frozen_of_row _ _ 2 _ _ hby
      have t2:=cell_of_row _ _ 2 _ _ _ hby
      have e3:=cell_of_row _ _ 3 _ _ _ hbx
      have g3:=frozen_of_row _ _ 3 _ _ hby
      have t3:=cell_of_row _ _ 3 _ _ _ hby
      have e4:=cell_of_row _ _ 4 _ _ _ hbx
      have g4:=frozen_of_row _ _ 4 _ _ hby
      have t4:=cell_of_row _ _ 4 _ _ _ hby
      have e5:=cell_of_row _ _ 5 _ _ _ hbx
      have g5:=frozen_of_row _ _ 5 _ _ hby
      have t5:=cell_of_row _ _ 5 _ _ _ hby
      have e6:=cell_of_row _ _ 6 _ _ _ hbx
      have g6:=frozen_of_row _ _ 6 _ _ hby
      have t6:=cell_of_row _ _ 6 _ _ _ hby
      have e7:=cell_of_row _ _ 7 _ _ _ hbx
      have g7:=frozen_of_row _ _ 7 _ _ hby
      have t7:=cell_of_row _ _ 7 _ _ _ hby
      have e8:=cell_of_row _ _ 8 _ _ _ hbx
      have g8:=frozen_of_row _ _ 8 _ _ hby
      have t8:=cell_of_row _ _ 8 _ _ _ hby
      clear hbx hby
      go_wp2_with fail
      refine bodyPost_ret (v:=.agg #[.string p1.1.2.2.1,.string p2.1.2.2.1,.int .i64 p3.1,.slice A d.length c,.string p5.1.2.1,.string p6.1.2.1,.string p7.1.2.1,.int .i64 p8.1,.string p9.1.2.1]) (by simp [results,Tryz.results35,go_sem,t0,t1,t2,t3,t4,t5,t6,t7,t8]) rfl ?_
      exact HFN.out _ ((((((((gb_set.trans gb_set).trans gb_set).trans gb_set).trans gb_set).trans gb_set).trans gb_set).trans gb_set).trans gb_set)
    · have i2 : decide ((0 : Int) < (m : Int))=true:=decide_eq_true (by omega)
      have i3 : decide (0 < m)=true:=decide_eq_true h0
      have HE:=Lib.hid (HMM.out true (by rw [decide_eq_true h0];rfl))
      rw [HP.out] at HE
      have HC:=Lib.hid (HCE.out true)
      clear h0 HMM HCE
      have hf : ∀ W,(W8.setCell ⟨rb,1,none⟩ (.bool true)).grownBy W (some w.heap.size)→HeQ w rb S P (.returned (valH ⟨p1.1.2.2.1,p2.1.2.2.1,p3.1,d,p5.1.2.1,p6.1.2.1,p7.1.2.1,p8.1,p9.1.2.1⟩ A d.length c)) W:=fun W hg=>by rw [HE.out];exact ⟨A,c,rfl,HZ.out.fin true hg⟩
      have HFN:=Lib.hid hf
      clear hf
      go_upto_region 20 with fail
      obtain ⟨WZ,hWZ⟩ : ∃ WZ,W8.setCell ⟨rb,1,none⟩ (.bool true)=WZ:=⟨_,rfl⟩
      rw [hWZ] at HC HFN ⊢
      clear hWZ c1 f1 d0 d1
      have hby:=HC.out.1
      have hbx:=HC.out.2
      have e0:=cell_of_row _ _ 0 _ _ _ hbx
      have g0:=frozen_of_row _ _ 0 _ _ hby
      have t0:=cell_of_row _ _ 0 _ _ _ hby
      have e1:=cell_of_row _ _ 1 _ _ _ hbx
      have g1:=frozen_of_row _ _ 1 _ _ hby
      have t1:=cell_of_row _ _ 1 _ _ _ hby
      have e2:=cell_of_row _ _ 2 _ _ _ hbx
      have g2:=frozen_of_row _ _ 2 _ _ hby
      have t2:=cell_of_row _ _ 2 _ _ _ hby
      have e3:=cell_of_row _ _ 3 _ _ _ hbx
      have g3:=frozen_of_row _ _ 3 _ _ hby
      have t3:=cell_of_row _ _ 3 _ _ _ hby
      have e4:=cell_of_row _ _ 4 _ _ _ hbx
      have g4:=frozen_of_row _ _ 4 _ _ hby
      have t4:=cell_of_row _ _ 4 _ _ _ hby
      have e5:=cell_of_row _ _ 5 _ _ _ hbx
      have g5:=frozen_of_row _ _ 5 _ _ hby
      have t5:=cell_of_row _ _ 5 _ _ _ hby
      have e6:=cell_of_row _ _ 6 _ _ _ hbx
      have g6:=frozen_of_row _ _ 6 _ _ hby
      have t6:=cell_of_row _ _ 6 _ _ _ hby
      have e7:=cell_of_row _ _ 7 _ _ _ hbx
      have g7:=frozen_of_row _ _ 7 _ _ hby
      have t7:=cell_of_row _ _ 7 _ _ _ hby
      have e8:=cell_of_row _ _ 8 _ _ _ hbx
      have g8:=frozen_of_row _ _ 8 _ _ hby
      have t8:=cell_of_row _ _ 8 _ _ _ hby
      clear hbx hby
      go_wp2_with fail
      refine bodyPost_ret (v:=.agg #[.string p1.1.2.2.1,.string p2.1.2.2.1,.int .i64 p3.1,.slice A d.length c,.string p5.1.2.1,.string p6.1.2.1,.string p7.1.2.1,.int .i64 p8.1,.string p9.1.2.1]) (by simp [results,Tryz.results35,go_sem,t0,t1,t2,t3,t4,t5,t6,t7,t8]) rfl ?_
      exact HFN.out _ ((((((((gb_set.trans gb_set).trans gb_set).trans gb_set).trans gb_set).trans gb_set).trans gb_set).trans gb_set).trans gb_set)
    · have i2 : decide ((0 : Int) < (m : Int))=false:=decide_eq_false (by omega)
      have i3 : decide (0 < m)=false:=decide_eq_false h0
      have HE:=Lib.hid (HMM.out true (by rw [decide_eq_false h0];rfl))
      rw [HP.out] at HE
      have HC:=Lib.hid (HCE.out true)
      clear h0 HMM HCE
      have hf : ∀ W,(W8.setCell ⟨rb,1,none⟩ (.bool true)).grownBy W (some w.heap.size)→HeQ w rb S P (.returned (valH ⟨p1.1.2.2.1,p2.1.2.2.1,p3.1,d,p5.1.2.1,p6.1.2.1,p7.1.2.1,p8.1,p9.1.2.1⟩ A d.length c)) W:=fun W hg=>by rw [HE.out];exact ⟨A,c,rfl,HZ.out.fin true hg⟩
      have HFN:=Lib.hid hf
      clear hf
      go_upto_region 20 with fail
      obtain ⟨WZ,hWZ⟩ : ∃ WZ,W8.setCell ⟨rb,1,none⟩ (.bool true)=WZ:=⟨_,rfl⟩
      rw [hWZ] at HC HFN ⊢
      clear hWZ c1 f1 d0 d1
      have hby:=HC.out.1
      have hbx:=HC.out.2
      have e0:=cell_of_row _ _ 0 _ _ _ hbx
      have g0:=frozen_of_row _ _ 0 _ _ hby
      have t0:=cell_of_row _ _ 0 _ _ _ hby
      have e1:=cell_of_row _ _ 1 _ _ _ hbx
      have g1:=frozen_of_row _ _ 1 _ _ hby
      have t1:=cell_of_row _ _ 1 _ _ _ hby
      have e2:=cell_of_row _ _ 2 _ _ _ hbx
      have g2:=frozen_of_row _ _ 2 _ _ hby
      have t2:=cell_of_row _ _ 2 _ _ _ hby
      have e3:=cell_of_row _ _ 3 _ _ _ hbx
      have g3:=frozen_of_row _ _ 3 _ _ hby
      have t3:=cell_of_row _ _ 3 _ _ _ hby
      have e4:=cell_of_row _ _ 4 _ _ _ hbx
      have g4:=frozen_of_row _ _ 4 _ _ hby
      have t4:=cell_of_row _ _ 4 _ _ _ hby
      have e5:=cell_of_row _ _ 5 _ _ _ hbx
      have g5:=frozen_of_row _ _ 5 _ _ hby
      have t5:=cell_of_row _ _ 5 _ _ _ hby
      have e6:=cell_of_row _ _ 6 _ _ _ hbx
      have g6:=frozen_of_row _ _ 6 _ _ hby
      have t6:=cell_of_row _ _ 6 _ _ _ hby
      have e7:=cell_of_row _ _ 7 _ _ _ hbx
      have g7:=frozen_of_row _ _ 7 _ _ hby
      have t7:=cell_of_row _ _ 7 _ _ _ hby
      have e8:=cell_of_row _ _ 8 _ _ _ hbx
      have g8:=frozen_of_row _ _ 8 _ _ hby
      have t8:=cell_of_row _ _ 8 _ _ _ hby
      clear hbx hby
      go_wp2_with fail
      refine bodyPost_ret (v:=.agg #[.string p1.1.2.2.1,.string p2.1.2.2.1,.int .i64 p3.1,.slice A d.length c,.string p5.1.2.1,.string p6.1.2.1,.string p7.1.2.1,.int .i64 p8.1,.string p9.1.2.1]) (by simp [results,Tryz.results35,go_sem,t0,t1,t2,t3,t4,t5,t6,t7,t8]) rfl ?_
      exact HFN.out _ ((((((((gb_set.trans gb_set).trans gb_set).trans gb_set).trans gb_set).trans gb_set).trans gb_set).trans gb_set).trans gb_set)
    · have i2 : decide ((0 : Int) < (m : Int))=true:=decide_eq_true (by omega)
      have i3 : decide (0 < m)=true:=decide_eq_true h0
      have HE:=Lib.hid (HMM.out true (by rw [decide_eq_true h0];rfl))
      rw [HP.out] at HE
      have HC:=Lib.hid (HCE.out true)
      clear h0 HMM HCE
      have hf : ∀ W,(W8.setCell ⟨rb,1,none⟩ (.bool true)).grownBy W (some w.heap.size)→HeQ w rb S P (.returned (valH ⟨p1.1.2.2.1,p2.1.2.2.1,p3.1,d,p5.1.2.1,p6.1.2.1,p7.1.2.1,p8.1,p9.1.2.1⟩ A d.length c)) W:=fun W hg=>by rw [HE.out];exact ⟨A,c,rfl,HZ.out.fin true hg⟩
      have HFN:=Lib.hid hf
      clear hf
      go_upto_region 20 with fail
      obtain ⟨WZ,hWZ⟩ : ∃ WZ,W8.setCell ⟨rb,1,none⟩ (.bool true)=WZ:=⟨_,rfl⟩
      rw [hWZ] at HC HFN ⊢
      clear hWZ c1 f1 d0 d1
      have hby:=HC.out.1
      have hbx:=HC.out.2
      have e0:=cell_of_row _ _ 0 _ _ _ hbx
      have g0:=frozen_of_row _ _ 0 _ _ hby
      have t0:=cell_of_row _ _ 0 _ _ _ hby
      have e1:=cell_of_row _ _ 1 _ _ _ hbx
      have g1:=frozen_of_row _ _ 1 _ _ hby
      have t1:=cell_of_row _ _ 1 _ _ _ hby
      have e2:=cell_of_row _ _ 2 _ _ _ hbx
      have g2:=frozen_of_row _ _ 2 _ _ hby
      have t2:=cell_of_row _ _ 2 _ _ _ hby
      have e3:=cell_of_row _ _ 3 _ _ _ hbx
      have g3:=frozen_of_row _ _ 3 _ _ hby
      have t3:=cell_of_row _ _ 3 _ _ _ hby
      have e4:=cell_of_row _ _ 4 _ _ _ hbx
      have g4:=frozen_of_row _ _ 4 _ _ hby
      have t4:=cell_of_row _ _ 4 _ _ _ hby
      have e5:=cell_of_row _ _ 5 _ _ _ hbx
      have g5:=frozen_of_row _ _ 5 _ _ hby
      have t5:=cell_of_row _ _ 5 _ _ _ hby
      have e6:=cell_of_row _ _ 6 _ _ _ hbx
      have g6:=frozen_of_row _ _ 6 _ _ hby
      have t6:=cell_of_row _ _ 6 _ _ _ hby
      have e7:=cell_of_row _ _ 7 _ _ _ hbx
      have g7:=frozen_of_row _ _ 7 _ _ hby
      have t7:=cell_of_row _ _ 7 _ _ _ hby
      have e8:=cell_of_row _ _ 8 _ _ _ hbx
      have g8:=frozen_of_row _ _ 8 _ _ hby
      have t8:=cell_of_row _ _ 8 _ _ _ hby
      clear hbx hby
      go_wp2_with fail
      refine bodyPost_ret (v:=.agg #[.string p1.1.2.2.1,.string p2.1.2.2.1,.int .i64 p3.1,.slice A d.length c,.string p5.1.2.1,.string p6.1.2.1,.string p7.1.2.1,.int .i64 p8.1,.string p9.1.2.1]) (by simp [results,Tryz.results35,go_sem,t0,t1,t2,t3,t4,t5,t6,t7,t8]) rfl ?_
      exact HFN.out _ ((((((((gb_set.trans gb_set).trans gb_set).trans gb_set).trans gb_set).trans gb_set).trans gb_set).trans gb_set).trans gb_set)
    · have i2 : decide ((0 : Int) < (m : Int))=false:=decide_eq_false (by omega)
      have i3 : decide (0 < m)=false:=decide_eq_false h0
      have HE:=Lib.hid (HMM.out true (by rw [decide_eq_false h0];rfl))
      rw [HP.out] at HE
      have HC:=Lib.hid (HCE.out true)
      clear h0 HMM HCE
      have hf : ∀ W,(W8.setCell ⟨rb,1,none⟩ (.bool true)).grownBy W (some w.heap.size)→HeQ w rb S P (.returned (valH ⟨p1.1.2.2.1,p2.1.2.2.1,p3.1,d,p5.1.2.1,p6.1.2.1,p7.1.2.1,p8.1,p9.1.2.1⟩ A d.length c)) W:=fun W hg=>by rw [HE.out];exact ⟨A,c,rfl,HZ.out.fin true hg⟩
      have HFN:=Lib.hid hf
      clear hf
      go_upto_region 20 with fail
      obtain ⟨WZ,hWZ⟩ : ∃ WZ,W8.setCell ⟨rb,1,none⟩ (.bool true)=WZ:=⟨_,rfl⟩
      rw [hWZ] at HC HFN ⊢
      clear hWZ c1 f1 d0 d1
      have hby:=HC.out.1
      have hbx:=HC.out.2
      have e0:=cell_of_row _ _ 0 _ _ _ hbx
      have g0:=frozen_of_row _ _ 0 _ _ hby
      have t0:=cell_of_row _ _ 0 _ _ _ hby
      have e1:=cell_of_row _ _ 1 _ _ _ hbx
      have g1:=frozen_of_row _ _ 1 _ _ hby
      have t1:=cell_of_row _ _ 1 _ _ _ hby
      have e2:=cell_of_row _ _ 2 _ _ _ hbx
      have g2:=frozen_of_row _ _ 2 _ _ hby
      have t2:=cell_of_row _ _ 2 _ _ _ hby
      have e3:=cell_of_row _ _ 3 _ _ _ hbx
      have g3:=frozen_of_row _ _ 3 _ _ hby
      have t3:=cell_of_row _ _ 3 _ _ _ hby
      have e4:=cell_of_row _ _ 4 _ _ _ hbx
      have g4:=frozen_of_row _ _ 4 _ _ hby
      have t4:=cell_of_row _ _ 4 _ _ _ hby
      have e5:=cell_of_row _ _ 5 _ _ _ hbx
      have g5:=frozen_of_row _ _ 5 _ _ hby
      have t5:=cell_of_row _ _ 5 _ _ _ hby
      have e6:=cell_of_row _ _ 6 _ _ _ hbx
      have g6:=frozen_of_row _ _ 6 _ _ hby
      have t6:=cell_of_row _ _ 6 _ _ _ hby
      have e7:=cell_of_row _ _ 7 _ _ _ hbx
      have g7:=frozen_of_row _ _ 7 _ _ hby
      have t7:=cell_of_row _ _ 7 _ _ _ hby
      have e8:=cell_of_row _ _ 8 _ _ _ hbx
      have g8:=frozen_of_row _ _ 8 _ _ hby
      have t8:=cell_of_row _ _ 8 _ _ _ hby
      clear hbx hby
      go_wp2_with fail
      refine bodyPost_ret (v:=.agg #[.string p1.1.2.2.1,.string p2.1.2.2.1,.int .i64 p3.1,.slice A d.length c,.string p5.1.2.1,.string p6.1.2.1,.string p7.1.2.1,.int .i64 p8.1,.string p9.1.2.1]) (by simp [results,Tryz.results35,go_sem,t0,t1,t2,t3,t4,t5,t6,t7,t8]) rfl ?_
      exact HFN.out _ ((((((((gb_set.trans gb_set).trans gb_set).trans gb_set).trans gb_set).trans gb_set).trans gb_set).trans gb_set).trans gb_set)
end Go.Proofs.YtjhlddlocpkhkaaGreat
namespace Go.Proofs.YtjhlddlocpkhkaaGreat
open Go.RowKit
set_option maxRecDepth 100000
set_option linter.unusedVariables false
set_option linter.unusedSectionVars false
set_option maxHeartbeats 8000000
def GotS (S : Nat→Prop) (w : World) (R : Rs) (o : Ending) (w' : World) : Prop :=
 ∃ A1 c1 A2 c2 A3 c3,o=.returned (.tuple #[.agg #[.string R.sec,.slice A1 R.qs.length c1,.slice A2 R.hs.length c2,.slice A3 R.us.length c3],.int .i64 R.z])∧WalM w' (fun g=>S g∨(w.heap.size≤g∧g < w'.heap.size)) R.qs R.hs R.us A1 A2 A3∧Below w.heap.size w w'
theorem gotS_err {S : Nat→Prop} {w w' : World} {z : Int} {o : Ending} (h : ChErr w z o w') : GotS S w (Rs.err z) o w':=⟨none,0,none,0,none,0,h.1,WalM.nil_,h.2⟩
theorem gotS_of {S : Nat→Prop} {w w' : World} {sec : ByteArray} {qs : List Az} {hs : List Hz} {us : List Uz} {o : Ending} (h : ChS S w sec qs hs us o w') : GotS S w (Rs.of sec qs hs us) o w':=by
 obtain ⟨A1,n1,c1,A2,n2,c2,A3,n3,c3,e,rfl,rfl,rfl,hm,hb⟩:=h
 exact ⟨A1,c1,A2,c2,A3,c3,e,hm,hb⟩
section
variable (sec : ByteArray) (qs : List Az) (hs : List Hz) (us : List Uz) (Aa Ah Au : Option Addr) (na ca nh ch nu cu : Nat) (S : Nat→Prop) (w : World) (hq : qs.length=na) (hn : hs.length=nh) (hu : us.length=nu) (hma : na < 4096) (hmh : nh < 4096) (hmu : nu < 4096) (hatt : ∀ x ∈ hs,x.att.length≤100000) (h : WalM w S qs hs us Aa Ah Au) (hS : ∀ g,S g→g < w.heap.size)
include hq hn hu hma hmh hmu hatt h hS
theorem ask_gs (i s n x b : ByteArray) : Calls Tryz.prog 34 #[.agg #[.string sec,.slice Aa na ca,.slice Ah nh ch,.slice Au nu cu],.agg #[.string i,.string s,.string n,.string x,.string b]] w (GotS S w (askW sec qs hs us (i,s,n,x,b))):=by
 unfold askW
 cases ha : qs.any (isA n) with
 | true =>
   rw [if_pos rfl]
   exact (r56_ask_twice sec qs hs us Aa Ah Au na ca nh ch nu cu i s n x b S w hq hma ha h hS).mono fun o w' g=>gotS_err g
 | false =>
   rw [if_neg (by decide)]
   exact (r56_ask_ok sec qs hs us Aa Ah Au na ca nh ch nu cu i s n x b S w hq hma hn hu ha h hS).mono fun o w' g=>gotS_of g
theorem store_gs (nc : ByteArray) (x : Hz) (A : Option Addr) (n c : Nat) (hva : validA [] qs=true) (hnx : x.att.length=n) (hrow : RowC w S A n (cellsN x.att)) :
  Calls Tryz.prog 36 #[.agg #[.string sec,.slice Aa na ca,.slice Ah nh ch,.slice Au nu cu],.string nc,valH x A n c] w (GotS S w (storeW sec qs hs us nc x)):=by
 unfold storeW
 refine (r56_store sec qs hs us Aa Ah Au na ca nh ch nu cu nc x A n c S w hq hn hu hma hmh hva hnx hrow h hS).mono fun o w' g=>?_
 rcases g with ⟨e,g⟩ | ⟨y,e,⟨hb,g⟩ | ⟨hb,g⟩⟩
 · rw [e];exact gotS_err g
 · rw [e];dsimp only;rw [if_pos hb];exact gotS_err g
 · rw [e];dsimp only;rw [hb,if_neg (by decide)];exact gotS_of g
theorem renew_gs (k : Int) (x : Hz) (A : Option Addr) (n c : Nat) (hnx : x.att.length=n) (hmn : n≤100000) (hrow : RowC w S A n (cellsN x.att)) :
  Calls Tryz.prog 38 #[.agg #[.string sec,.slice Aa na ca,.slice Ah nh ch,.slice Au nu cu],.int .i64 k,valH x A n c] w (GotS S w (renewW sec qs hs us k x)):=by
 unfold renewW
 by_cases hk : k < 0∨(hs.length : Int)≤k
 · rw [if_pos hk]
   rw [hn] at hk
   exact (r56_renew_range sec Aa Ah Au na ca nh ch nu cu k x A n c w hk).mono fun o w' g=>gotS_err g
 · rw [if_neg hk]
   obtain ⟨j,rfl⟩ : ∃ j : Nat,k=(j : Int):=⟨k.toNat,by omega⟩
   rw [Int.toNat_natCast]
   have hj : j < hs.length:=by omega
   have hy:=List.getElem?_eq_getElem hj
   rw [hy]
   dsimp only
   cases hsame : sameH hs[j] x with
   | false =>
     rw [if_neg (by decide)]
     exact (r56_renew_other sec qs hs us Aa Ah Au na ca nh ch nu cu j _ x A n c S w hq hn hu (by omega) (by omega) (by omega) hatt hnx hmn hy hsame hrow h hS).mono fun o w' g=>gotS_err g
   | true =>
     rw [if_pos rfl]
     by_cases hep : x.ep < hs[j].ep
     · rw [if_pos hep]
       exact (r56_renew_epoch sec qs hs us Aa Ah Au na ca nh ch nu cu j _ x A n c S w hq hn hu (by omega) (by omega) (by omega) hatt hnx hmn hy hsame hep hrow h hS).mono fun o w' g=>gotS_err g
     · rw [if_neg hep]
       exact (r56_renew_ok sec qs hs us Aa Ah Au na ca nh ch nu cu j _ x A n c S w hq hn hu (by omega) (by omega) (by omega) hatt hnx hmn hy hsame (by omega) hrow h hS).mono fun o w' g=>gotS_of g
theorem use_gs (s : ByteArray) (p c : Int) : Calls Tryz.prog 41 #[.agg #[.string sec,.slice Aa na ca,.slice Ah nh ch,.slice Au nu cu],.agg #[.string s,.int .i64 p,.int .i64 c]] w (GotS S w (useW sec qs hs us (s,p,c))):=by
 refine (r56_use sec qs hs us Aa Ah Au na ca nh ch nu cu s p c S w hq hn hu hmu h hS).mono ?_
 rintro o w' ⟨A1,c1,A2,c2,A3,n3,c3,rfl,rfl,hm,hb⟩
 refine ⟨A1,c1,A2,c2,A3,c3,?_,hm,hb⟩
 unfold useW Rs.of
 rw [hq,hn]
end
structure RaB (w : World) (bc : Array Value) (rb : Nat) (T : Nat→Prop) (s : Its × Bool) (W : World) : Prop where
 one : W.heap[w.heap.size]?=some (.cells bc 27 (0,0))
 res : W.heap[w.heap.size+1]?=some (.cells #[.string ⟨#[]⟩,.slice none 0 0,.slice none 0 0,.slice none 0 0] 27 (0,0))
 bel : Below w.heap.size w W
 lo : w.heap.size+2≤rb
 hi : rb < W.heap.size
 inn : InQ W rb T s.1 s.2
 ok : okI s.1=true
 sz : s.1.size≤10000
 own : ∀ g,T g→w.heap.size+2≤g∧g < rb
section
variable {w W w' : World} {bc : Array Value} {rb : Nat} {T : Nat→Prop} {s s' : Its × Bool}
theorem RaB.far (h : RaB w bc rb T s W) : ∀ g,T g→g < W.heap.size∧g≠rb:=fun g hg=>by
 have:=h.own g hg
 have:=h.hi
 exact ⟨by omega,by omega⟩
theorem RaB.rd (h : RaB w bc rb T s W) (hg : W.grownBy w' (some rb)) (hi : InQ w' rb T s'.1 s'.2) (ho : okI s'.1=true) (hz : s'.1.size≤10000) : RaB w bc rb T s' w':=by
 have h1:=h.lo
 have h2:=h.hi
 exact ⟨(hg.block _ (by omega) (fun e=>by injection e;omega)).trans h.one,(hg.block _ (by omega) (fun e=>by injection e;omega)).trans h.res,h.bel.trans (below_grown hg (by omega) (fun g e=>by injection e;omega)),h1,Nat.lt_of_lt_of_le h2 hg.size,hi,ho,hz,h.own⟩
theorem RaB.next (h : RaB w bc rb T s W) (hb : Below W.heap.size W w') : RaB w bc rb T s w' :=
 h.rd (gb_below hb) (h.inn.gb (gb_below (row:=none) hb) (fun g hg=>⟨(h.far g hg).1,by simp⟩) (by simp)) h.ok h.sz
theorem RaB.rc (h : RaB w bc rb T s W) : (W.cell? ⟨w.heap.size+1,0,none⟩=some (.string ⟨#[]⟩)∧W.cell? ⟨w.heap.size+1,1,none⟩=some (.slice none 0 0)∧W.cell? ⟨w.heap.size+1,2,none⟩=some (.slice none 0 0)∧W.cell? ⟨w.heap.size+1,3,none⟩=some (.slice none 0 0)) ∧
  (W.frozen? ⟨w.heap.size+1,0,none⟩=false∧W.frozen? ⟨w.heap.size+1,1,none⟩=false∧W.frozen? ⟨w.heap.size+1,2,none⟩=false∧W.frozen? ⟨w.heap.size+1,3,none⟩=false) :=
 ⟨⟨cell_of_row W _ 0 _ _ _ h.res,cell_of_row W _ 1 _ _ _ h.res,cell_of_row W _ 2 _ _ _ h.res,cell_of_row W _ 3 _ _ _ h.res⟩,frozen_of_row W _ 0 _ _ h.res,frozen_of_row W _ 1 _ _ h.res,frozen_of_row W _ 2 _ _ h.res,frozen_of_row W _ 3 _ _ h.res⟩
theorem res4 (hb : Below w.heap.size w W) (v0 v1 v2 v3 : Value) : Below w.heap.size w ((((W.setCell ⟨w.heap.size+1,0,none⟩ v0).setCell ⟨w.heap.size+1,1,none⟩ v1).setCell ⟨w.heap.size+1,2,none⟩ v2).setCell ⟨w.heap.size+1,3,none⟩ v3) :=
 (((hb.setCell (p:=⟨w.heap.size+1,0,none⟩) (Nat.le_succ _) _).setCell (p:=⟨w.heap.size+1,1,none⟩) (Nat.le_succ _) _).setCell (p:=⟨w.heap.size+1,2,none⟩) (Nat.le_succ _) _).setCell (p:=⟨w.heap.size+1,3,none⟩) (Nat.le_succ _) _
theorem gotS_fin {S S1 : Nat→Prop} {R : Rs} {A1 A2 A3 : Option Addr} {c1 c2 c3 : Nat} (hS : ∀ g,S g→g < w.heap.size) (h1 : ∀ g,S1 g→S g∨(w.heap.size+2≤g∧g < W.heap.size)) (hlo : w.heap.size+2≤W.heap.size) (hbw : Below w.heap.size w W)
  (hm : WalM w' (fun g=>S1 g∨(W.heap.size≤g∧g < w'.heap.size)) R.qs R.hs R.us A1 A2 A3) (hb : Below W.heap.size W w') (v0 v1 v2 v3 : Value) :
  GotS S w R (.returned (.tuple #[.agg #[.string R.sec,.slice A1 R.qs.length c1,.slice A2 R.hs.length c2,.slice A3 R.us.length c3],.int .i64 R.z])) ((((w'.setCell ⟨w.heap.size+1,0,none⟩ v0).setCell ⟨w.heap.size+1,1,none⟩ v1).setCell ⟨w.heap.size+1,2,none⟩ v2).setCell ⟨w.heap.size+1,3,none⟩ v3):=by
 have hz:=hb.size
 have hcell : ∀ (W : World) (i : Nat) (u : Value) (p : Addr),p.block≠w.heap.size+1→(W.setCell ⟨w.heap.size+1,i,none⟩ u).cell? p=W.cell? p:=fun W i u p hp=>World.cell?_setCell_other _ _ _ _ (fun e=>hp (by have:=congrArg Addr.block e;first | exact this | exact this.symm))
 have hmem : ∀ g,(S1 g∨(W.heap.size≤g∧g < w'.heap.size))→g≠w.heap.size+1∧(S g∨(w.heap.size≤g∧g < w'.heap.size)):=fun g hg=>by
  rcases hg with hg | hg
  · rcases h1 g hg with hg | hg
    · have:=hS g hg;exact ⟨by omega,.inl hg⟩
    · exact ⟨by omega,.inr ⟨by omega,by omega⟩⟩
  · exact ⟨by omega,.inr ⟨by omega,hg.2⟩⟩
 refine ⟨A1,c1,A2,c2,A3,c3,rfl,(hm.keep (fun p hp=>?_)).mono (fun g hg=>?_),res4 (hbw.trans (hb.mono (by omega))) _ _ _ _⟩
 · have:=(hmem _ hp).1
   rw [hcell _ _ _ _ this,hcell _ _ _ _ this,hcell _ _ _ _ this,hcell _ _ _ _ this]
 · simpa using (hmem g hg).2
theorem gotS_zero {S : Nat→Prop} {z : Int} (hb : Below w.heap.size w W) : GotS S w (Rs.err z) (.returned (.tuple #[.agg #[.string ⟨#[]⟩,.slice none 0 0,.slice none 0 0,.slice none 0 0],.int .i64 z])) W:=⟨none,0,none,0,none,0,rfl,WalM.nil_,hb⟩
end
theorem r56_New (n : ByteArray) (S : Nat→Prop) (w : World) : Calls Tryz.prog 32 #[.string n] w fun o w'=>o=.returned (.agg #[.string n,.slice none 0 0,.slice none 0 0,.slice none 0 0])∧Below w.heap.size w w':=by
 go_enter Tryz.func32, Tryz.ntmps32
 go_wp2_with fail
 refine bodyPost_ret (v:=.agg #[.string n,.slice none 0 0,.slice none 0 0,.slice none 0 0]) (by simp [results,Tryz.results32,go_sem]) rfl ?_
 exact ⟨rfl,(Below.refl _ _).alloc (Nat.le_refl _) _⟩
end Go.Proofs.YtjhlddlocpkhkaaGreat
