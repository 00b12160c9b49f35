/- Wallet: the reader's held at whatever items. Printed by genApk.py. Wallet: the reader's used at whatever items; the effects secret, asked, spent, counted. Wallet: the effects secret, asked, spent, counted at whatever items. Printed by genApj.py. Wallet: the effects held, renewed, kept at whatever items. Printed by genApm.py. Encoding: (*reader).item where it reads no item: it panics. Printed by genApc.py. -/
import Derived.Test.YtjhlddlocpkhkaaGreatWhJ40
import Derived.Test.YtjhlddlocpkhkaaGreatWhJ41
import Derived.Deep.DeepCutAuto
import Derived.Deep.CutBlock
import Derived.Test.YtjhlddlocpkhkaaGreatWhJ39
namespace Go.Proofs.YtjhlddlocpkhkaaGreat
open Go.RowKit
set_option maxRecDepth 100000
set_option linter.unusedVariables false
set_option maxHeartbeats 8000000
def HeA (w : World) (rb : Nat) (S : Nat→Prop) (p : Option (Hz × Its)) (o : Ending) (w' : World) : Prop :=
 (∃ x r A c,p=some (x,r)∧o=.returned (valH x A x.att.length c)∧RowC w' (fun g=>w.heap.size≤g∧g < w'.heap.size) A x.att.length (cellsN x.att)∧InI w' rb S r∧w.grownBy w' (some rb))∨(p=none∧PanF w rb o w')
theorem wal_heldA (l : Its) (rb : Nat) (S : Nat→Prop) (w : World) (hin : InI w rb S l) (hok : okI l=true) (hsz : l.size≤10000) (hS : ∀ g,S g→g < w.heap.size∧g≠rb) :
  Calls Tryz.prog 62 #[.pointer (some ⟨rb,0,none⟩)] w (HeA w rb S (rHeld l)):=by
 obtain ⟨W,hW⟩ : ∃ W,w.alloc (.cells zeroH 47)=W:=⟨_,rfl⟩
 have hbw : Below w.heap.size w W:=by rw [← hW];exact (Below.refl _ _).alloc (Nat.le_refl _) _
 have hszW : W.heap.size=w.heap.size+1:=by rw [← hW];simp
 have hbx : W.heap[w.heap.size]?=some (.cells zeroH 47 (0,0)):=by rw [← hW];exact heap_alloc_new w _
 obtain ⟨A0,c0,hc0,hsl,hb⟩:=hin
 have hlt:=hb.lt
 have hll:=Nat.le_trans (Its.len_size l) hsz
 have HN:=Lib.hid (wal_listA l A0 _ c0 rb S W hok rfl (by omega) hc0 (hb.keep hbw) (hsl.below hbw (fun g hg=>(hS g hg).1)) (fun g hg=>⟨Nat.lt_of_lt_of_le (hS g hg).1 hbw.size,(hS g hg).2⟩))
 unfold LsA NxGot at HN
 have HS:=Lib.hid hS
 have HBS:=Lib.hid (fun (b r : Its) (h : rLst l=some (b,r))=>(show okI b=true∧b.size≤10000 from ⟨(rLst_some hok h).2.2,(size_tail ((rLst_some hok h).1 ▸ hsz)).1⟩))
 have HX : Hid (∀ (b r : Its) (n : Nat) w5 A1 c1 A2 c2,rLst l=some (b,r)→b.len=n→b.len≤c1→r.len≤c2→SlK w5 S A1 b→SlK w5 S A2 r→RdI A2 r.len c2 rb w5→W.grownBy w5 (some rb)→HdO w rb w5.heap.size S r b zeroH ((w5.alloc (.cells #[.slice A1 n c1] 75)).alloc (.cells zeroH 47))):=Lib.hid (by
  intro b r n w5 A1 c1 A2 c2 hlr hbn h1 h2 h3 h4 h5 h6
  subst hbn
  have hs:=h6.size
  have hal : Below w5.heap.size w5 ((w5.alloc (.cells #[.slice A1 b.len c1] 75)).alloc (.cells zeroH 47)):=((Below.refl _ _).alloc (Nat.le_refl _) _).alloc (by simp) _
  have hS5 : ∀ g,S g→g < w5.heap.size:=fun g hg=>Nat.lt_of_lt_of_le (hS g hg).1 (by omega)
  refine ⟨⟨(hal.block _ (by omega)).trans ((h6.block _ (by omega) (fun e=>by injection e;omega)).trans hbx),(two_boxes w5 _ _).2,((gb_below hbw).trans h6).trans (gb_below hal),by omega,by simp,⟨A2,c2,h2,h4.below hal hS5,h5.keep hal⟩,⟨A1,c1,h1,h3.below hal hS5,(two_boxes w5 _ _).1⟩,hlt,hS⟩,?_⟩
  exact HBS.out b r hlr)
 have HBW:=Lib.hid hbw
 rw [← hW] at HN HX HBW
 have hf3:=fld_3
 obtain ⟨P,hP⟩ : ∃ P,rHeld l=P:=⟨_,rfl⟩
 rw [hP]
 have HP:=Lib.hid hP
 clear hb hsl hS hc0 hbw hbx hszW hlt hW hok hsz hll hP
 go_enter Tryz.func62, Tryz.ntmps62
 go_upto_region 4 with (go_at_call 69;(with_reducible refine HN.out.mono ?_);rintro o w5 (⟨b,r,e0,A1,c1,A2,c2,rfl,h1,h2,h3,h4,h5,h6⟩ | ⟨e0,rfl,hg⟩);rotate_left;(have hg:=(gb_below (row:=some rb) HBW.out).trans hg);exact ⟨rfl,.inr ⟨by rw [← HP.out];simp only [rHeld,e0],rfl,hg⟩⟩;have HX0:=Lib.hid (HX.out b r _ w5 A1 c1 A2 c2 e0 rfl h1 h2 h3 h4 h5 h6);have E0:=Lib.hid e0;clear h1 h2 h3 h4 h5 h6 e0)
 have hal1:=World.size_alloc w5 (.cells #[.slice A1 b.len c1] 75)
 obtain ⟨W1,hW1⟩ : ∃ W1,((w5.alloc (.cells #[.slice A1 b.len c1] 75)).alloc (.cells zeroH 47))=W1:=⟨_,rfl⟩
 obtain ⟨r1,hr1⟩ : ∃ r1,w5.heap.size=r1:=⟨_,rfl⟩
 rw [hW1] at HX0 ⊢
 rw [hr1] at HX0 ⊢
 clear hW1 hr1 hal1 HX HN
 have HT1:=Lib.hid (ho_text HX0.out)
 go_upto_region 5 with (first
  | (go_at_call 27;(with_reducible refine HT1.out.mono ?_);rintro o w6 (⟨iss,l1,e1,rfl,h6,_⟩ | ⟨e1,rfl,hg⟩);rotate_left;exact ⟨rfl,.inr ⟨by rw [← HP.out];simp only [rHeld,heldC,E0.out,e1],rfl,hg⟩⟩;have E1:=Lib.hid e1;have HT2:=Lib.hid (ho_text h6);clear e1 h6 HT1)
  | (go_at_call 27;(with_reducible refine HT2.out.mono ?_);rintro o w7 (⟨sch,l2,e2,rfl,h7,_⟩ | ⟨e2,rfl,hg⟩);rotate_left;exact ⟨rfl,.inr ⟨by rw [← HP.out];simp only [rHeld,heldC,E0.out,E1.out,e2],rfl,hg⟩⟩;have E2:=Lib.hid e2;have HT3:=Lib.hid (ho_number h7);clear e2 h7 HT2)
  | (go_at_call 64;(with_reducible refine HT3.out.mono ?_);rintro o w8 (⟨ver,l3,e3,rfl,h8,_⟩ | ⟨e3,rfl,hg⟩);rotate_left;exact ⟨rfl,.inr ⟨by rw [← HP.out];simp only [rHeld,heldC,E0.out,E1.out,E2.out,e3],rfl,hg⟩⟩;have E3:=Lib.hid e3;have x0:=cell_of_row _ _ 0 _ _ _ h8.1.held;have x1:=cell_of_row _ _ 1 _ _ _ h8.1.held;have x2:=cell_of_row _ _ 2 _ _ _ h8.1.held;have g0:=frozen_of_row _ _ 0 _ _ h8.1.held;have g1:=frozen_of_row _ _ 1 _ _ h8.1.held;have g2:=frozen_of_row _ _ 2 _ _ h8.1.held;have H8:=Lib.hid (show HdO w rb r1 S r l3 #[.string iss,.string sch,.int .i64 ver,.slice none 0 0,.string ⟨#[]⟩,.string ⟨#[]⟩,.string ⟨#[]⟩,.int .i64 0,.string ⟨#[]⟩] _ from ⟨((h8.1.put 0 (.string iss) _ rfl).put 1 (.string sch) _ rfl).put 2 (.int .i64 ver) #[.string iss,.string sch,.int .i64 ver,.slice none 0 0,.string ⟨#[]⟩,.string ⟨#[]⟩,.string ⟨#[]⟩,.int .i64 0,.string ⟨#[]⟩] rfl,h8.2⟩);clear e3 h8 HT3))
 obtain ⟨W5,hW5⟩ : ∃ W5,(((w8.setCell ⟨r1+1,0,none⟩ (.string iss)).setCell ⟨r1+1,1,none⟩ (.string sch)).setCell ⟨r1+1,2,none⟩ (.int .i64 ver))=W5:=⟨_,rfl⟩
 rw [hW5] at H8 ⊢
 clear hW5 x0 x1 x2 g0 g1 g2 HX0
 have HN5:=Lib.hid (ho_next H8.out)
 unfold HoL at HN5
 go_wp2_with (go_at_call 69;(with_reducible refine HN5.out.mono ?_);rintro o w9 (⟨b9,l4,A9,c9,e4,rfl,h1,h2,h3,h4,h5⟩ | ⟨e4,rfl,hg⟩);rotate_left;exact ⟨rfl,.inr ⟨by rw [← HP.out];simp only [rHeld,heldC,heldM,E0.out,E1.out,E2.out,E3.out,e4],rfl,hg⟩⟩;have E4:=Lib.hid e4;have H9:=Lib.hid (And.intro h1 (And.intro h2 h5));have HB9:=Lib.hid (And.intro h3 h4);clear h1 h2 h3 h4 h5 e4)
 have hY0 : HdQ w rb r1 w9.heap.size S r l4 b9 #[.string iss,.string sch,.int .i64 ver,.slice none 0 0,.string ⟨#[]⟩,.string ⟨#[]⟩,.string ⟨#[]⟩,.int .i64 0,.string ⟨#[]⟩] (.slice none 0 0) 0 [] (w9.alloc (.cells #[.slice A9 b9.len c9] 75)):=by
  have hal : Below w9.heap.size w9 (w9.alloc (.cells #[.slice A9 b9.len c9] 75)):=(Below.refl _ _).alloc (Nat.le_refl _) _
  have hx:=H9.out.2.2.1
  exact ⟨hx.below hal,hx.size,by simp,⟨A9,c9,H9.out.1,H9.out.2.1.below hal (fun g hg=>(hx.far g hg).1),heap_alloc_new w9 _⟩,OwnS.nil_ _ _⟩
 have HL4:=Lib.hid H9.out.2.2.2
 obtain ⟨W9,hW9⟩ : ∃ W9,w9.alloc (.cells #[.slice A9 b9.len c9] 75)=W9:=⟨_,rfl⟩
 obtain ⟨r2,hr2⟩ : ∃ r2,w9.heap.size=r2:=⟨_,rfl⟩
 rw [hW9,hr2] at hY0
 rw [hW9,hr2]
 have HY0:=Lib.hid hY0
 clear hW9 hr2 H9 HN5 H8 hY0
 go_loopw [] (fun wr=>∃ (d : List ByteArray) (q : Its) (A : Option Addr) (c : Nat),natsO b9=preN d (natsO q)∧d.length+q.len≤10000∧HdQ w rb r1 r2 S r l4 q #[.string iss,.string sch,.int .i64 ver,.slice A d.length c,.string ⟨#[]⟩,.string ⟨#[]⟩,.string ⟨#[]⟩,.int .i64 0,.string ⟨#[]⟩] (.slice A d.length c) d.length d wr) (fun wr=>lenAt wr r2)
 case atStart=>exact ⟨[],b9,none,0,(preN_nil _).symm,by have:=Nat.le_trans (Its.len_size b9) HB9.out.2;simpa using this,HY0.out⟩
 case round =>
  obtain ⟨d,q,A,c,hda,hdl,hy⟩:=hrel
  obtain ⟨A',c',hc',hsl',hb'⟩:=hy.nums
  obtain ⟨z0,z1⟩:=hb'.cells
  have HY:=Lib.hid hy
  have HDA:=Lib.hid hda
  have HDL:=Lib.hid hdl
  clear hy hda hdl hc' hsl' hb' HY0
  cases q with
  | nil =>
    simp only [Its.len] at z0
    have E5 : Hid (natsO b9=some d):=Lib.hid (by rw [HDA.out];unfold preN natsO;simp)
    have HM0:=Lib.hid (hz_natA HY.out.to HL4.out.1 HL4.out.2)
    go_upto_region 8 with fail
    go_upto_region 9 with (first
     | (go_at_call 58;(with_reducible refine HM0.out.mono ?_);rintro o w6 (⟨sa,l6,e6,rfl,h6,k6,k6'⟩ | ⟨e6,rfl,hg⟩);rotate_left;exact ⟨rfl,.inr ⟨by rw [← HP.out];simp only [rHeld,heldC,heldM,heldT,E0.out,E1.out,E2.out,E3.out,E4.out,E5.out,e6],rfl,hg⟩⟩;have E6:=Lib.hid e6;have HM1:=Lib.hid (hz_natA h6 k6 k6');clear e6 h6 k6 k6' HM0)
     | (go_at_call 58;(with_reducible refine HM1.out.mono ?_);rintro o w7 (⟨se,l7,e7,rfl,h7,k7,k7'⟩ | ⟨e7,rfl,hg⟩);rotate_left;exact ⟨rfl,.inr ⟨by rw [← HP.out];simp only [rHeld,heldC,heldM,heldT,E0.out,E1.out,E2.out,E3.out,E4.out,E5.out,E6.out,e7],rfl,hg⟩⟩;have E7:=Lib.hid e7;have HM2:=Lib.hid (hz_natA h7 k7 k7');clear e7 h7 k7 k7' HM1)
     | (go_at_call 58;(with_reducible refine HM2.out.mono ?_);rintro o w8 (⟨sv,l8,e8,rfl,h8,k8,k8'⟩ | ⟨e8,rfl,hg⟩);rotate_left;exact ⟨rfl,.inr ⟨by rw [← HP.out];simp only [rHeld,heldC,heldM,heldT,E0.out,E1.out,E2.out,E3.out,E4.out,E5.out,E6.out,E7.out,e8],rfl,hg⟩⟩;have E8:=Lib.hid e8;have x4:=cell_of_row _ _ 4 _ _ _ h8.x.held;have x5:=cell_of_row _ _ 5 _ _ _ h8.x.held;have x6:=cell_of_row _ _ 6 _ _ _ h8.x.held;have g4:=frozen_of_row _ _ 4 _ _ h8.x.held;have g5:=frozen_of_row _ _ 5 _ _ h8.x.held;have g6:=frozen_of_row _ _ 6 _ _ h8.x.held;have H8:=Lib.hid (((h8.put 4 (.string sa) _ rfl).put 5 (.string se) _ rfl).put 6 (.string sv) #[.string iss,.string sch,.int .i64 ver,.slice A d.length c,.string sa,.string se,.string sv,.int .i64 0,.string ⟨#[]⟩] rfl);have HK8:=Lib.hid (And.intro k8 k8');clear e8 h8 k8 k8' HM2))
    obtain ⟨W8,hW8⟩ : ∃ W8,(((w8.setCell ⟨r1+1,4,none⟩ (.string sa)).setCell ⟨r1+1,5,none⟩ (.string se)).setCell ⟨r1+1,6,none⟩ (.string sv))=W8:=⟨_,rfl⟩
    rw [hW8] at H8 ⊢
    clear hW8 x4 x5 x6 g4 g5 g6
    have HM3:=Lib.hid (hz_numberA H8.out HK8.out.1 HK8.out.2)
    go_upto_region 10 with (first
     | (go_at_call 64;(with_reducible refine HM3.out.mono ?_);rintro o w9 (⟨ep,l9,e9,rfl,h9,k9,k9'⟩ | ⟨e9,rfl,hg⟩);rotate_left;exact ⟨rfl,.inr ⟨by rw [← HP.out];simp only [rHeld,heldC,heldM,heldT,E0.out,E1.out,E2.out,E3.out,E4.out,E5.out,E6.out,E7.out,E8.out,e9],rfl,hg⟩⟩;have E9:=Lib.hid e9;have HM4:=Lib.hid (hz_natA h9 k9 k9');clear e9 h9 k9 k9' HM3)
     | (go_at_call 58;(with_reducible refine HM4.out.mono ?_);rintro o w10 (⟨wit,l10,e10,rfl,h10,k10,k10'⟩ | ⟨e10,rfl,hg⟩);rotate_left;exact ⟨rfl,.inr ⟨by rw [← HP.out];simp only [rHeld,heldC,heldM,heldT,E0.out,E1.out,E2.out,E3.out,E4.out,E5.out,E6.out,E7.out,E8.out,E9.out,e10],rfl,hg⟩⟩;have E10:=Lib.hid e10;have x7:=cell_of_row _ _ 7 _ _ _ h10.x.held;have x8:=cell_of_row _ _ 8 _ _ _ h10.x.held;have g7:=frozen_of_row _ _ 7 _ _ h10.x.held;have g8:=frozen_of_row _ _ 8 _ _ h10.x.held;have H10:=Lib.hid ((h10.put 7 (.int .i64 ep) _ rfl).put 8 (.string wit) #[.string iss,.string sch,.int .i64 ver,.slice A d.length c,.string sa,.string se,.string sv,.int .i64 ep,.string wit] rfl);clear e10 h10 k10 k10' HM4))
    obtain ⟨W10,hW10⟩ : ∃ W10,((w10.setCell ⟨r1+1,7,none⟩ (.int .i64 ep)).setCell ⟨r1+1,8,none⟩ (.string wit))=W10:=⟨_,rfl⟩
    rw [hW10] at H10 ⊢
    clear hW10 x7 x8 g7 g8
    have HE:=Lib.hid (ho_end H10.out.x)
    go_upto_region 11 with (go_at_call 59;(with_reducible refine HE.out.mono ?_);rintro o w11 (⟨e11,rfl,rfl⟩ | ⟨e11,rfl,hg⟩);rotate_left;exact ⟨rfl,.inr ⟨by rw [← HP.out];simp only [rHeld,heldC,heldM,heldT,E0.out,E1.out,E2.out,E3.out,E4.out,E5.out,E6.out,E7.out,E8.out,E9.out,E10.out,e11],rfl,hg⟩⟩;have E11:=Lib.hid e11;clear e11)
    have hbx:=H10.out.x.held
    have hby:=H10.out.x.res
    have c0:=cell_of_row _ _ 0 _ _ _ hbx
    have c1:=cell_of_row _ _ 1 _ _ _ hbx
    have c2:=cell_of_row _ _ 2 _ _ _ hbx
    have c3:=cell_of_row _ _ 3 _ _ _ hbx
    have c4:=cell_of_row _ _ 4 _ _ _ hbx
    have c5:=cell_of_row _ _ 5 _ _ _ hbx
    have c6:=cell_of_row _ _ 6 _ _ _ hbx
    have c7:=cell_of_row _ _ 7 _ _ _ hbx
    have c8:=cell_of_row _ _ 8 _ _ _ hbx
    have g0:=frozen_of_row _ _ 0 _ _ hby
    have g1:=frozen_of_row _ _ 1 _ _ hby
    have g2:=frozen_of_row _ _ 2 _ _ hby
    have g3:=frozen_of_row _ _ 3 _ _ hby
    have g4:=frozen_of_row _ _ 4 _ _ hby
    have g5:=frozen_of_row _ _ 5 _ _ hby
    have g6:=frozen_of_row _ _ 6 _ _ hby
    have g7:=frozen_of_row _ _ 7 _ _ hby
    have g8:=frozen_of_row _ _ 8 _ _ hby
    have t0:=cell_of_row _ _ 0 _ _ _ hby
    have t1:=cell_of_row _ _ 1 _ _ _ hby
    have t2:=cell_of_row _ _ 2 _ _ _ hby
    have t3:=cell_of_row _ _ 3 _ _ _ hby
    have t4:=cell_of_row _ _ 4 _ _ _ hby
    have t5:=cell_of_row _ _ 5 _ _ _ hby
    have t6:=cell_of_row _ _ 6 _ _ _ hby
    have t7:=cell_of_row _ _ 7 _ _ _ hby
    have t8:=cell_of_row _ _ 8 _ _ _ hby
    clear hbx hby
    go_wp2_with fail
    refine bodyPost_ret (v:=.agg #[.string iss,.string sch,.int .i64 ver,.slice A d.length c,.string sa,.string se,.string sv,.int .i64 ep,.string wit]) (by simp [results,Tryz.results62,go_sem,t0,t1,t2,t3,t4,t5,t6,t7,t8]) rfl ?_
    refine .inl ⟨⟨iss,sch,ver,d,sa,se,sv,ep,wit⟩,r,A,c,?_,rfl,H10.out.fin ?_⟩
    · rw [← HP.out]
      simp only [rHeld,heldC,heldM,heldT,E0.out,E1.out,E2.out,E3.out,E4.out,E5.out,E6.out,E7.out,E8.out,E9.out,E10.out,E11.out]
    · exact ((((((((gb_set.trans gb_set).trans gb_set).trans gb_set).trans gb_set).trans gb_set).trans gb_set).trans gb_set).trans gb_set)
  | cons k y t0 b0 q =>
    have hq0 : 0 < (Its.cons k y t0 b0 q).len:=by simp [Its.len]
    have hil : decide ((0 : Int) < ((Its.cons k y t0 b0 q).len : Int))=true:=decide_eq_true (by omega)
    have hil2 : (0 : Int) < ((Its.cons k y t0 b0 q).len : Int):=by omega
    have hlq : (Its.cons k y t0 b0 q).len=q.len+1:=rfl
    have HLE:=Lib.hid (show d.length+1≤10000∧q.len < 100000∧(Its.cons k y t0 b0 q).len≤100000 by have:=HDL.out;omega)
    generalize hml : (Its.cons k y t0 b0 q).len=ml at z0 hil hil2 hq0
    have HHC : Hid (∀ W (l : Its) (h : HdX w rb r1 S r l #[.string iss,.string sch,.int .i64 ver,.slice A d.length c,.string ⟨#[]⟩,.string ⟨#[]⟩,.string ⟨#[]⟩,.int .i64 0,.string ⟨#[]⟩] W),W.cell? ⟨r1+1,3,none⟩=some (.slice A d.length c)):=Lib.hid (fun W l h=>cell_of_row _ _ 3 _ _ _ h.held)
    have x3:=HHC.out _ _ HY.out.x
    clear hlq
    by_cases hk : k=0
    · subst hk
      have HN7:=Lib.hid (fun W (h : HdQ w rb r1 r2 S r l4 (.cons 0 y t0 b0 q) #[.string iss,.string sch,.int .i64 ver,.slice A d.length c,.string ⟨#[]⟩,.string ⟨#[]⟩,.string ⟨#[]⟩,.int .i64 0,.string ⟨#[]⟩] (.slice A d.length c) d.length d W)=>hq_nat h HLE.out.2.1)
      go_upto_region 7 with fail
      go_region_law (first
       | (go_simp;go_at_call 58;(first | (with_reducible refine (HN7.out _ HY.out).mono ?_) | (with_reducible refine (HN7.out _ (HY.out.below (Below.refl _ _).drew)).mono ?_));rintro o w6 ⟨rfl,h6⟩;have q3:=HHC.out _ _ h6.x;have g3:=frozen_of_row _ _ 3 _ _ h6.x.held;have H6:=Lib.hid h6;have HA:=Lib.hid (h6.below ((Below.refl _ _).alloc (Nat.le_refl _) (.cells #[.string y] 22)));have q4:=HHC.out _ _ HA.out.x;have HK:=Lib.hid (heap_alloc_new w6 (.cells #[.string y] 22));clear h6)
       | (refine step_append_N1 rfl (.tmp 43) (.tmp 46) rfl (r2+1) (.slice A d.length c) d.length d (by simp [Act.eval]) HA.out.row y w6.heap.size 1 (by simp [Act.eval]) HK.out (Nat.le_trans HLE.out.1 (by decide)) HA.out.lt ?_;intro v7 w7 hown hg;obtain ⟨A7,c7,rfl,_⟩:=hown.form (Nat.le_trans HA.out.lt hg.size);have H7:=Lib.hid (HA.out.app hg hown);have q7:=cell_of_row _ _ 3 _ _ _ H7.out.x.held;have g7:=frozen_of_row _ _ 3 _ _ H7.out.x.held;clear hown hg))
      all_goals
       have HPT:=Lib.hid (H7.out.put 3 (.slice A7 (d.length+1) c7) #[.string iss,.string sch,.int .i64 ver,.slice A7 (d.length+1) c7,.string ⟨#[]⟩,.string ⟨#[]⟩,.string ⟨#[]⟩,.int .i64 0,.string ⟨#[]⟩] rfl)
       go_roundw
       case rel =>
        have e : (d++[y]).length=d.length+1:=by simp
        have hrel : ∃ (d1 : List ByteArray) (q1 : Its) (A : Option Addr) (c : Nat),natsO b9=preN d1 (natsO q1)∧d1.length+q1.len≤10000∧HdQ w rb r1 r2 S r l4 q1 #[.string iss,.string sch,.int .i64 ver,.slice A d1.length c,.string ⟨#[]⟩,.string ⟨#[]⟩,.string ⟨#[]⟩,.int .i64 0,.string ⟨#[]⟩] (.slice A d1.length c) d1.length d1 (w7.setCell ⟨r1+1,3,none⟩ (.slice A7 (d.length+1) c7)):=by
         refine ⟨d++[y],q,A7,c7,by rw [HDA.out,preN_cons],?_,?_⟩
         · rw [e]
           have:=HDL.out
           simp only [Its.len] at this
           omega
         · rw [e]
           exact HPT.out
        exact ⟨_,_,_,_,_,_,_,_,_,_,_,_,_,_,_,_,_,hrel,rfl⟩
       case measure =>
        have h1:=HPT.out.nums.len_at
        have h2:=HY.out.nums.len_at
        rw [h1,h2]
        exact Nat.lt_succ_self _
    · have hno : rNat (.cons k y t0 b0 q)=none:=by unfold rNat;rw [nxt_other hk]
      have e5 : natsO b9=none:=by rw [HDA.out];unfold preN natsO;rw [if_neg hk]
      have E5:=Lib.hid e5
      have HN7:=Lib.hid (fun W (h : HdQ w rb r1 r2 S r l4 (.cons k y t0 b0 q) #[.string iss,.string sch,.int .i64 ver,.slice A d.length c,.string ⟨#[]⟩,.string ⟨#[]⟩,.string ⟨#[]⟩,.int .i64 0,.string ⟨#[]⟩] (.slice A d.length c) d.length d W)=>hq_no h HLE.out.2.2 hno)
      clear hno e5 hk
      go_upto_region 7 with fail
      go_region_law (go_simp;go_at_call 58;(first | (with_reducible refine (HN7.out _ HY.out).mono ?_) | (with_reducible refine (HN7.out _ (HY.out.below (Below.refl _ _).drew)).mono ?_));rintro o w6 ⟨rfl,hg⟩;refine dumm (P:=Tryz.prog) (a:=⟨#[],[]⟩) (w:=wr) (by { refine ⟨rfl,.inr ⟨?_,rfl,hg⟩⟩;rw [← HP.out];simp only [rHeld,heldC,heldM,E0.out,E1.out,E2.out,E3.out,E4.out,E5.out] }) ?_)
      all_goals trivial
structure RyB (w : World) (rb : Nat) (S : Nat→Prop) (cs : Array Value) (T : TypeId) (l : Its) (W : World) : Prop where
 box : W.heap[w.heap.size]?=some (.cells cs T (0,0))
 gr : w.grownBy W (some rb)
 size : w.heap.size < W.heap.size
 inn : InI W rb S l
 ok : okI l=true
 sz : l.size≤10000
 rlt : rb < w.heap.size
 own : ∀ g,S g→g < w.heap.size∧g≠rb
section
variable {w W w' : World} {rb : Nat} {S : Nat→Prop} {cs : Array Value} {T : TypeId} {l l' : Its}
theorem RyB.start (hin : InI w rb S l) (hok : okI l=true) (hsz : l.size≤10000) (hS : ∀ g,S g→g < w.heap.size∧g≠rb) : RyB w rb S cs T l (w.alloc (.cells cs T)):=by
 have hb : Below w.heap.size w (w.alloc (.cells cs T)):=(Below.refl _ _).alloc (Nat.le_refl _) _
 obtain ⟨A,c,h1,h2,h3⟩:=hin
 exact ⟨heap_alloc_new w _,gb_below hb,by simp,⟨A,c,h1,h2.below hb (fun g hg=>(hS g hg).1),h3.keep hb⟩,hok,hsz,h3.lt,hS⟩
theorem RyB.far (h : RyB w rb S cs T l W) : ∀ g,S g→g < W.heap.size∧g≠rb:=fun g hg=>⟨Nat.lt_trans (h.own g hg).1 h.size,(h.own g hg).2⟩
theorem RyB.rd (h : RyB w rb S cs T l W) (hg : W.grownBy w' (some rb)) (hi : InI w' rb S l') (ho : okI l'=true) (hz : l'.size≤10000) : RyB w rb S cs T l' w' :=
 have h1:=h.size
 have h2:=h.rlt
 ⟨(hg.block _ h1 (fun e=>by injection e;omega)).trans h.box,h.gr.trans hg,Nat.lt_of_lt_of_le h1 hg.size,hi,ho,hz,h2,h.own⟩
theorem RyB.below (h : RyB w rb S cs T l W) (hb : Below W.heap.size W w') : RyB w rb S cs T l w' :=
 h.rd (gb_below hb) (h.inn.gb (gb_below (row:=none) hb) (fun g hg=>⟨(h.far g hg).1,by simp⟩) (by simp)) h.ok h.sz
def RyS (w : World) (rb : Nat) (S : Nat→Prop) (cs : Array Value) (T : TypeId) (p : Option (ByteArray × Its)) (o : Ending) (w' : World) : Prop:=(∃ t r,p=some (t,r)∧o=.returned (.string t)∧RyB w rb S cs T r w')∨(p=none∧PanF w rb o w')
def RyN (w : World) (rb : Nat) (S : Nat→Prop) (cs : Array Value) (T : TypeId) (p : Option (Int × Its)) (o : Ending) (w' : World) : Prop:=(∃ z r,p=some (z,r)∧o=.returned (.int .i64 z)∧RyB w rb S cs T r w')∨(p=none∧PanF w rb o w')
theorem ry_text (h : RyB w rb S cs T l W) : Calls Tryz.prog 27 #[.pointer (some ⟨rb,0,none⟩)] W (RyS w rb S cs T (rTxt l)):=by
 obtain ⟨A,c,h1,h2,h3⟩:=h.inn
 have hl:=Nat.le_trans (Its.len_size l) h.sz
 refine (wal_textA l A _ c rb S W rfl (by omega) h1 h3 h2 h.far).mono ?_
 rintro o w' (⟨t,r,e,A2,c2,rfl,k2,k4,k5,k6⟩ | ⟨e,rfl,hg⟩)
 · obtain ⟨e2,ho⟩:=rTxt_some h.ok e
   exact .inl ⟨t,r,e,rfl,h.rd k6 ⟨A2,c2,k2,k4,k5⟩ ho (size_tail (e2 ▸ h.sz)).2⟩
 · exact .inr ⟨e,rfl,h.gr.trans hg⟩
theorem ry_number (h : RyB w rb S cs T l W) : Calls Tryz.prog 64 #[.pointer (some ⟨rb,0,none⟩)] W (RyN w rb S cs T (rNum l)):=by
 obtain ⟨A,c,h1,h2,h3⟩:=h.inn
 have hsz:=h.sz
 have hl:=Nat.le_trans (Its.len_size l) h.sz
 refine (wal_numberA l A _ c rb S W h.ok (by omega) rfl (by omega) h1 h3 h2 h.far).mono ?_
 rintro o w' (⟨z,r,e,A2,c2,rfl,k2,k4,k5,k6⟩ | ⟨e,rfl,hg⟩)
 · obtain ⟨e2,ho,_⟩:=rNum_some h.ok e
   exact .inl ⟨z,r,e,rfl,h.rd k6 ⟨A2,c2,k2,k4,k5⟩ ho (size_tail (e2 ▸ h.sz)).2⟩
 · exact .inr ⟨e,rfl,h.gr.trans hg⟩
theorem ry_end (h : RyB w rb S cs T l W) : Calls Tryz.prog 59 #[.pointer (some ⟨rb,0,none⟩)] W (EyE w rb (rEnd l) W):=by
 obtain ⟨A,c,h1,h2,h3⟩:=h.inn
 refine (wal_endA l A _ c rb W rfl h3).mono ?_
 rintro o w' (⟨e,rfl,rfl⟩ | ⟨e,rfl,hg⟩)
 · exact .inl ⟨e,rfl,rfl⟩
 · exact .inr ⟨e,rfl,h.gr.trans hg⟩
end
def UdA (w : World) (rb : Nat) (S : Nat→Prop) (p : Option Uz) (o : Ending) (w' : World) : Prop:=(∃ t x y,p=some (t,x,y)∧o=.returned (.agg #[.string t,.int .i64 x,.int .i64 y])∧InI w' rb S .nil∧w.grownBy w' (some rb))∨(p=none∧PanF w rb o w')
theorem wal_usedA (l : Its) (rb : Nat) (S : Nat→Prop) (w : World) (hin : InI w rb S l) (hok : okI l=true) (hsz : l.size≤10000) (hS : ∀ g,S g→g < w.heap.size∧g≠rb) :
  Calls Tryz.prog 66 #[.pointer (some ⟨rb,0,none⟩)] w (UdA w rb S (usedO l)):=by
 have H0:=Lib.hid (RyB.start (cs:=#[.string ⟨#[]⟩,.int .i64 0,.int .i64 0]) (T:=57) hin hok hsz hS)
 have HT:=Lib.hid (ry_text H0.out)
 obtain ⟨P,hP⟩ : ∃ P,usedO l=P:=⟨_,rfl⟩
 rw [hP]
 have HP:=Lib.hid hP
 clear hin hok hsz hS hP
 go_enter Tryz.func66, Tryz.ntmps66
 go_upto_region 2 with (first
  | (go_at_call 27;(with_reducible refine HT.out.mono ?_);rintro o w1 (⟨t,r1,e1,rfl,h1⟩ | ⟨e1,rfl,hg⟩);rotate_left;exact ⟨rfl,.inr ⟨by rw [← HP.out];simp only [usedO,e1],rfl,hg⟩⟩;have E1:=Lib.hid e1;have HN1:=Lib.hid (ry_number h1);clear e1 h1 HT)
  | (go_at_call 64;(with_reducible refine HN1.out.mono ?_);rintro o w2 (⟨x,r2,e2,rfl,h2⟩ | ⟨e2,rfl,hg⟩);rotate_left;exact ⟨rfl,.inr ⟨by rw [← HP.out];simp only [usedO,E1.out,e2],rfl,hg⟩⟩;have E2:=Lib.hid e2;have HN2:=Lib.hid (ry_number h2);clear e2 h2 HN1)
  | (go_at_call 64;(with_reducible refine HN2.out.mono ?_);rintro o w3 (⟨y,r3,e3,rfl,h3⟩ | ⟨e3,rfl,hg⟩);rotate_left;exact ⟨rfl,.inr ⟨by rw [← HP.out];simp only [usedO,E1.out,E2.out,e3],rfl,hg⟩⟩;have E3:=Lib.hid e3;have H3:=Lib.hid (h3.below ((Below.refl _ _).alloc (Nat.le_refl _) (.cells #[.string t,.int .i64 x,.int .i64 y] 57)));have HB3:=Lib.hid (heap_alloc_new w3 (.cells #[.string t,.int .i64 x,.int .i64 y] 57));clear e3 h3 HN2))
 obtain ⟨W5,hW5⟩ : ∃ W5,w3.alloc (.cells #[.string t,.int .i64 x,.int .i64 y] 57)=W5:=⟨_,rfl⟩
 obtain ⟨b5,hb5⟩ : ∃ b5,w3.heap.size=b5:=⟨_,rfl⟩
 rw [hW5] at H3 HB3 ⊢
 rw [hb5] at HB3 ⊢
 clear hW5 hb5
 have HE:=Lib.hid (ry_end H3.out)
 go_upto_region 3 with (go_at_call 59;(with_reducible refine HE.out.mono ?_);rintro o w6 (⟨e4,rfl,rfl⟩ | ⟨e4,rfl,hg⟩);rotate_left;exact ⟨rfl,.inr ⟨by rw [← HP.out];simp only [usedO,E1.out,E2.out,E3.out,e4],rfl,hg⟩⟩;have E4:=Lib.hid e4;clear e4)
 have hl:=rEnd_some E4.out
 subst hl
 have hbx:=H3.out.box
 have g0:=frozen_of_row _ _ 0 _ _ hbx
 have g1:=frozen_of_row _ _ 1 _ _ hbx
 have g2:=frozen_of_row _ _ 2 _ _ hbx
 have r0:=cell_of_row _ _ 0 _ _ _ hbx
 have r1:=cell_of_row _ _ 1 _ _ _ hbx
 have r2:=cell_of_row _ _ 2 _ _ _ hbx
 have z0:=cell_of_row _ _ 0 _ _ _ HB3.out
 have z1:=cell_of_row _ _ 1 _ _ _ HB3.out
 have z2:=cell_of_row _ _ 2 _ _ _ HB3.out
 clear hbx
 go_wp2_with fail
 refine bodyPost_ret (v:=.agg #[.string t,.int .i64 x,.int .i64 y]) (by simp [results,Tryz.results66,go_sem,r0,r1,r2]) rfl ?_
 have hg : W5.grownBy (((W5.setCell ⟨w.heap.size,0,none⟩ (.string t)).setCell ⟨w.heap.size,1,none⟩ (.int .i64 x)).setCell ⟨w.heap.size,2,none⟩ (.int .i64 y)) (some w.heap.size):=(gb_set.trans gb_set).trans gb_set
 have h3:=H3.out
 refine .inl ⟨t,x,y,?_,rfl,h3.inn.gb hg (fun g hgs=>⟨(h3.far g hgs).1,fun e=>by injection e;have:=(h3.own g hgs).1;omega⟩) (fun e=>by injection e;have:=h3.rlt;omega),gb_new h3.gr hg (fun k e=>by injection e;omega)⟩
 rw [← HP.out]
 simp only [usedO,E1.out,E2.out,E3.out,E4.out]
def secretE (l : Its) : Rs:=match secretO l with | none=>Rs.err 4 | some n=>Rs.of n [] [] []
def askedE (sec : ByteArray) (qs : List Az) (hs : List Hz) (us : List Uz) (l : Its) : Rs:=match askedO l with | none=>Rs.err 4 | some a=>askW sec qs hs us a
noncomputable def spentE (sec : ByteArray) (qs : List Az) (hs : List Hz) (us : List Uz) (l : Its) : Rs:=match usedO l with | none=>Rs.err 4 | some u=>spendW sec qs hs us u
noncomputable def countedE (sec : ByteArray) (qs : List Az) (hs : List Hz) (us : List Uz) (l : Its) : Rs:=match usedO l with | none=>Rs.err 4 | some u=>countW sec qs hs us u
theorem spendW_ok {sec : ByteArray} {qs : List Az} {hs : List Hz} {us : List Uz} {t : ByteArray} {x y : Int} (h1 : ¬ y < 1) (h2 : y - 1=cntU (isU t x) us) : spendW sec qs hs us (t,x,y)=useW sec qs hs us (t,x,y):=by
 unfold spendW
 rw [if_neg]
 rintro (h | h)
 · exact h1 h
 · exact h h2
theorem spendW_bad {sec : ByteArray} {qs : List Az} {hs : List Hz} {us : List Uz} {t : ByteArray} {x y : Int} (h2 : y - 1≠cntU (isU t x) us) : spendW sec qs hs us (t,x,y)=Rs.err 26:=by
 unfold spendW
 rw [if_pos (.inr h2)]
theorem ey_used (w : World) (rb : Nat) (S S0 : Nat→Prop) (sec : ByteArray) (qs : List Az) (hs : List Hz) (us : List Uz) (Aa Ah Au : Option Addr) (na ca nh ch nu cu : Nat) (l : Its) (W : World) (h : EfY w rb S S0 sec qs hs us Aa na ca Ah nh ch Au nu cu l W) :
  Calls Tryz.prog 66 #[.pointer (some ⟨rb,0,none⟩)] W fun o w'=>(∃ t x y,usedO l=some (t,x,y)∧o=.returned (.agg #[.string t,.int .i64 x,.int .i64 y])∧EfX w rb S S0 sec qs hs us Aa na ca Ah nh ch Au nu cu .nil w')∨(usedO l=none∧PanF w rb o w'):=by
 obtain ⟨hx,hok,hsz⟩:=h
 refine (wal_usedA l rb S W hx.inn hok hsz hx.far).mono ?_
 rintro o w' (⟨t,x,y,e,rfl,hi,hg⟩ | ⟨e,rfl,hg⟩)
 · exact .inl ⟨t,x,y,e,rfl,hx.gb hg hi⟩
 · exact .inr ⟨e,rfl,hx.gr.trans hg⟩
theorem eff_secret (sec : ByteArray) (qs : List Az) (hs : List Hz) (us : List Uz) (Aa Ah Au : Option Addr) (na ca nh ch nu cu : Nat) (rb : Nat) (S S0 : Nat→Prop) (w : World) (hq : qs.length=na) (hn : hs.length=nh) (hu : us.length=nu) (hma : na < 4096) (hmh : nh < 4096) (hmu : nu < 4096) (hatt : ∀ x ∈ hs,x.att.length≤100000) (l : Its) (hok : okI l=true) (hsz : l.size≤10000)
  (hin : InI w rb S l) (hr : rb < w.heap.size) (hS : ∀ g,S g→g < w.heap.size∧g≠rb) (hm : WalM w S0 qs hs us Aa Ah Au) (hS0 : ∀ g,S0 g→g < w.heap.size∧g≠rb) :
  Calls Tryz.prog 20 #[.agg #[.string sec,.slice Aa na ca,.slice Ah nh ch,.slice Au nu cu],.pointer (some ⟨rb,0,none⟩)] w (EffO w rb (secretE l)):=by
 have H0:=Lib.hid (show EfY w rb S S0 sec qs hs us Aa na ca Ah nh ch Au nu cu l _ from ⟨EfX.start (sec:=sec) (na:=na) (ca:=ca) (nh:=nh) (ch:=ch) (nu:=nu) (cu:=cu) hin hr hS hm hS0,hok,hsz⟩)
 obtain ⟨P,hP⟩ : ∃ P,secretE l=P:=⟨_,rfl⟩
 rw [hP]
 have HP:=Lib.hid hP
 have HN:=Lib.hid (ey_nat w rb S S0 sec qs hs us Aa Ah Au na ca nh ch nu cu l _ H0.out)
 have HNW:=Lib.hid (fun n W=>wal_New n W)
 clear hq hn hu hma hmh hmu hatt hin hr hS hm hS0 hok hsz hP
 go_enter Tryz.func20, Tryz.ntmps20
 go_upto_region 2 with (go_at_call 58;(with_reducible refine HN.out.mono ?_);rintro o w1 (⟨n,r1,e1,rfl,h1⟩ | ⟨e1,rfl,hg⟩);rotate_left;exact ⟨rfl,.inr ⟨by rw [← HP.out];simp only [secretE,secretO,e1],rfl,hg⟩⟩;have E1:=Lib.hid e1;have HE:=Lib.hid (ey_end w rb S S0 sec qs hs us Aa Ah Au na ca nh ch nu cu r1 _ h1);have H1:=Lib.hid h1;clear e1 h1 HN)
 go_upto_region 3 with (go_at_call 59;(with_reducible refine HE.out.mono ?_);rintro o w6 (⟨e2,rfl,rfl⟩ | ⟨e2,rfl,hg⟩);rotate_left;exact ⟨rfl,.inr ⟨by rw [← HP.out];simp only [secretE,secretO,E1.out,e2],rfl,hg⟩⟩;have E2:=Lib.hid e2;clear e2)
 obtain ⟨R,hR⟩ : ∃ R,Rs.of n [] [] []=R:=⟨_,rfl⟩
 have HR:=Lib.hid hR
 have e0 : R.sec=n∧R.qs=[]∧R.hs=[]∧R.us=[]∧R.z=0:=by rw [← hR];exact ⟨rfl,rfl,rfl,rfl,rfl⟩
 clear hR
 go_wp2_with (go_at_call 60;(with_reducible refine (HNW.out n _).mono ?_);rintro o w7 ⟨rfl,hb7⟩;have H7:=Lib.hid (H1.out.below hb7);obtain ⟨⟨r0,r1,r2,r3⟩,g0,g1,g2,g3⟩:=H7.out.1.rc;have HF:=Lib.hid (H1.out.fin (R:=R) (A1:=none) (A2:=none) (A3:=none) (c1:=0) (c2:=0) (c3:=0) (by rw [e0.2.1,e0.2.2.1,e0.2.2.2.1];exact WalM.nil_) hb7);clear hb7)
 refine bodyPost_ret (v:=.tuple #[.agg #[.string n,.slice none 0 0,.slice none 0 0,.slice none 0 0],.int .i64 0]) (by simp [results,Tryz.results20,go_sem,r0,r1,r2,r3]) rfl ?_
 have hf:=HF.out (.string n) (.slice none 0 0) (.slice none 0 0) (.slice none 0 0)
 rw [e0.1,e0.2.1,e0.2.2.1,e0.2.2.2.1,e0.2.2.2.2] at hf
 rw [show P=R by rw [← HP.out,← HR.out];simp only [secretE,secretO,E1.out,E2.out]]
 exact hf
theorem eff_asked (sec : ByteArray) (qs : List Az) (hs : List Hz) (us : List Uz) (Aa Ah Au : Option Addr) (na ca nh ch nu cu : Nat) (rb : Nat) (S S0 : Nat→Prop) (w : World) (hq : qs.length=na) (hn : hs.length=nh) (hu : us.length=nu) (hma : na < 4096) (hmh : nh < 4096) (hmu : nu < 4096) (hatt : ∀ x ∈ hs,x.att.length≤100000) (l : Its) (hok : okI l=true) (hsz : l.size≤10000)
  (hin : InI w rb S l) (hr : rb < w.heap.size) (hS : ∀ g,S g→g < w.heap.size∧g≠rb) (hm : WalM w S0 qs hs us Aa Ah Au) (hS0 : ∀ g,S0 g→g < w.heap.size∧g≠rb) :
  Calls Tryz.prog 21 #[.agg #[.string sec,.slice Aa na ca,.slice Ah nh ch,.slice Au nu cu],.pointer (some ⟨rb,0,none⟩)] w (EffO w rb (askedE sec qs hs us l)):=by
 have H0:=Lib.hid (show EfY w rb S S0 sec qs hs us Aa na ca Ah nh ch Au nu cu l _ from ⟨EfX.start (sec:=sec) (na:=na) (ca:=ca) (nh:=nh) (ch:=ch) (nu:=nu) (cu:=cu) hin hr hS hm hS0,hok,hsz⟩)
 obtain ⟨P,hP⟩ : ∃ P,askedE sec qs hs us l=P:=⟨_,rfl⟩
 rw [hP]
 have HP:=Lib.hid hP
 have HA:=Lib.hid (fun i s n x b l W (h : EfY w rb S S0 sec qs hs us Aa na ca Ah nh ch Au nu cu l W)=>ask_got sec qs hs us Aa Ah Au na ca nh ch nu cu S0 W hq hn hu hma hmh hmu hatt h.1.mem h.1.lt0 i s n x b)
 have HT1:=Lib.hid (ey_text w rb S S0 sec qs hs us Aa Ah Au na ca nh ch nu cu l _ H0.out)
 clear hq hn hu hma hmh hmu hatt hin hr hS hm hS0 hok hsz hP
 go_enter Tryz.func21, Tryz.ntmps21
 go_upto_region 2 with (first
  | (go_at_call 27;(with_reducible refine HT1.out.mono ?_);rintro o w1 (⟨i,r1,e1,rfl,h1⟩ | ⟨e1,rfl,hg⟩);rotate_left;exact ⟨rfl,.inr ⟨by rw [← HP.out];simp only [askedE,askedO,e1],rfl,hg⟩⟩;have E1:=Lib.hid e1;have HT2:=Lib.hid (ey_text w rb S S0 sec qs hs us Aa Ah Au na ca nh ch nu cu r1 _ h1);clear e1 h1 HT1)
  | (go_at_call 27;(with_reducible refine HT2.out.mono ?_);rintro o w2 (⟨s,r2,e2,rfl,h2⟩ | ⟨e2,rfl,hg⟩);rotate_left;exact ⟨rfl,.inr ⟨by rw [← HP.out];simp only [askedE,askedO,E1.out,e2],rfl,hg⟩⟩;have E2:=Lib.hid e2;have HT3:=Lib.hid (ey_text w rb S S0 sec qs hs us Aa Ah Au na ca nh ch nu cu r2 _ h2);clear e2 h2 HT2)
  | (go_at_call 27;(with_reducible refine HT3.out.mono ?_);rintro o w3 (⟨n,r3,e3,rfl,h3⟩ | ⟨e3,rfl,hg⟩);rotate_left;exact ⟨rfl,.inr ⟨by rw [← HP.out];simp only [askedE,askedO,E1.out,E2.out,e3],rfl,hg⟩⟩;have E3:=Lib.hid e3;have HT4:=Lib.hid (ey_nat w rb S S0 sec qs hs us Aa Ah Au na ca nh ch nu cu r3 _ h3);clear e3 h3 HT3)
  | (go_at_call 58;(with_reducible refine HT4.out.mono ?_);rintro o w4 (⟨x,r4,e4,rfl,h4⟩ | ⟨e4,rfl,hg⟩);rotate_left;exact ⟨rfl,.inr ⟨by rw [← HP.out];simp only [askedE,askedO,E1.out,E2.out,E3.out,e4],rfl,hg⟩⟩;have E4:=Lib.hid e4;have HT5:=Lib.hid (ey_nat w rb S S0 sec qs hs us Aa Ah Au na ca nh ch nu cu r4 _ h4);clear e4 h4 HT4)
  | (go_at_call 58;(with_reducible refine HT5.out.mono ?_);rintro o w5 (⟨b,r5,e5,rfl,h5⟩ | ⟨e5,rfl,hg⟩);rotate_left;exact ⟨rfl,.inr ⟨by rw [← HP.out];simp only [askedE,askedO,E1.out,E2.out,E3.out,E4.out,e5],rfl,hg⟩⟩;have E5:=Lib.hid e5;have H5:=Lib.hid (h5.below ((Below.refl _ _).alloc (Nat.le_refl _) (.cells #[.string i,.string s,.string n,.string x,.string b] 40)));have HB5:=Lib.hid (heap_alloc_new w5 (.cells #[.string i,.string s,.string n,.string x,.string b] 40));clear e5 h5 HT5))
 obtain ⟨W5,hW5⟩ : ∃ W5,w5.alloc (.cells #[.string i,.string s,.string n,.string x,.string b] 40)=W5:=⟨_,rfl⟩
 obtain ⟨b5,hb5⟩ : ∃ b5,w5.heap.size=b5:=⟨_,rfl⟩
 rw [hW5] at H5 HB5 ⊢
 rw [hb5] at HB5 ⊢
 clear hW5 hb5
 have HE:=Lib.hid (ey_end w rb S S0 sec qs hs us Aa Ah Au na ca nh ch nu cu r5 _ H5.out)
 go_upto_region 3 with (go_at_call 59;(with_reducible refine HE.out.mono ?_);rintro o w6 (⟨e6,rfl,rfl⟩ | ⟨e6,rfl,hg⟩);rotate_left;exact ⟨rfl,.inr ⟨by rw [← HP.out];simp only [askedE,askedO,E1.out,E2.out,E3.out,E4.out,E5.out,e6],rfl,hg⟩⟩;have E6:=Lib.hid e6;clear e6)
 obtain ⟨y0,y1,y2,y3⟩:=H5.out.1.cc
 have z0:=cell_of_row _ _ 0 _ _ _ HB5.out
 have z1:=cell_of_row _ _ 1 _ _ _ HB5.out
 have z2:=cell_of_row _ _ 2 _ _ _ HB5.out
 have z3:=cell_of_row _ _ 3 _ _ _ HB5.out
 have z4:=cell_of_row _ _ 4 _ _ _ HB5.out
 obtain ⟨R,hR⟩ : ∃ R,askW sec qs hs us (i,s,n,x,b)=R:=⟨_,rfl⟩
 have HAW:=Lib.hid (HA.out i s n x b _ _ H5.out)
 rw [hR] at HAW
 unfold GotN at HAW
 have HR:=Lib.hid hR
 clear hR
 go_wp2_with (go_at_call 61;(with_reducible refine HAW.out.mono ?_);rintro o w7 ⟨A1,c1,A2,c2,A3,c3,rfl,hm7,hb7⟩;have H7:=Lib.hid (H5.out.below hb7);obtain ⟨⟨r0,r1,r2,r3⟩,g0,g1,g2,g3⟩:=H7.out.1.rc;have HF:=Lib.hid (H5.out.fin (R:=R) (c1:=c1) (c2:=c2) (c3:=c3) hm7 hb7);clear hm7 hb7)
 refine bodyPost_ret (v:=.tuple #[.agg #[.string R.sec,.slice A1 R.qs.length c1,.slice A2 R.hs.length c2,.slice A3 R.us.length c3],.int .i64 R.z]) (by simp [results,Tryz.results21,go_sem,r0,r1,r2,r3]) rfl ?_
 rw [show P=R by rw [← HP.out,← HR.out];simp only [askedE,askedO,E1.out,E2.out,E3.out,E4.out,E5.out,E6.out]]
 exact HF.out _ _ _ _
theorem eff_spent (sec : ByteArray) (qs : List Az) (hs : List Hz) (us : List Uz) (Aa Ah Au : Option Addr) (na ca nh ch nu cu : Nat) (rb : Nat) (S S0 : Nat→Prop) (w : World) (hq : qs.length=na) (hn : hs.length=nh) (hu : us.length=nu) (hma : na < 4096) (hmh : nh < 4096) (hmu : nu < 4096) (hatt : ∀ x ∈ hs,x.att.length≤100000) (l : Its) (hok : okI l=true) (hsz : l.size≤10000)
  (hin : InI w rb S l) (hr : rb < w.heap.size) (hS : ∀ g,S g→g < w.heap.size∧g≠rb) (hm : WalM w S0 qs hs us Aa Ah Au) (hS0 : ∀ g,S0 g→g < w.heap.size∧g≠rb) :
  Calls Tryz.prog 24 #[.agg #[.string sec,.slice Aa na ca,.slice Ah nh ch,.slice Au nu cu],.pointer (some ⟨rb,0,none⟩)] w (EffO w rb (spentE sec qs hs us l)):=by
 have H0:=Lib.hid (show EfY w rb S S0 sec qs hs us Aa na ca Ah nh ch Au nu cu l _ from ⟨EfX.start (sec:=sec) (na:=na) (ca:=ca) (nh:=nh) (ch:=ch) (nu:=nu) (cu:=cu) hin hr hS hm hS0,hok,hsz⟩)
 obtain ⟨P,hP⟩ : ∃ P,spentE sec qs hs us l=P:=⟨_,rfl⟩
 rw [hP]
 have HP:=Lib.hid hP
 have HUSE:=Lib.hid (fun t x y W (h : EfX w rb S S0 sec qs hs us Aa na ca Ah nh ch Au nu cu .nil W)=>use_got sec qs hs us Aa Ah Au na ca nh ch nu cu S0 W hq hn hu hma hmh hmu hatt h.mem h.lt0 t x y)
 have HCN:=Lib.hid (fun t x W (h : EfX w rb S S0 sec qs hs us Aa na ca Ah nh ch Au nu cu .nil W)=>wal_count us Au nu cu S0 sec Aa Ah na ca nh ch t x W hu (by omega) h.mem.u h.lt0)
 have HUD:=Lib.hid (ey_used w rb S S0 sec qs hs us Aa Ah Au na ca nh ch nu cu l _ H0.out)
 have HRG:=Lib.hid (fun (t : ByteArray) (x y : Int) (h : usedO l=some (t,x,y))=>(usedO_some hok h).2)
 clear hq hn hu hma hmh hmu hatt hin hr hS hm hS0 hok hsz hP
 go_enter Tryz.func24, Tryz.ntmps24
 go_upto_region 2 with (go_at_call 66;(with_reducible refine HUD.out.mono ?_);rintro o w1 (⟨t,x,y,e1,rfl,h1⟩ | ⟨e1,rfl,hg⟩);rotate_left;exact ⟨rfl,.inr ⟨by rw [← HP.out];simp only [spentE,e1],rfl,hg⟩⟩;have E1:=Lib.hid e1;have H1:=Lib.hid (h1.below ((Below.refl _ _).alloc (Nat.le_refl _) (.cells #[.string t,.int .i64 x,.int .i64 y] 57)));have HB1:=Lib.hid (heap_alloc_new w1 (.cells #[.string t,.int .i64 x,.int .i64 y] 57));clear e1 h1 HUD)
 obtain ⟨W1,hW1⟩ : ∃ W1,w1.alloc (.cells #[.string t,.int .i64 x,.int .i64 y] 57)=W1:=⟨_,rfl⟩
 obtain ⟨b1,hb1⟩ : ∃ b1,w1.heap.size=b1:=⟨_,rfl⟩
 rw [hW1] at H1 HB1 ⊢
 rw [hb1] at HB1 ⊢
 have HL1 : Hid (b1 < W1.heap.size):=Lib.hid (by rw [← hW1,← hb1];simp)
 clear hW1 hb1
 obtain ⟨y0,y1,y2,y3⟩:=H1.out.cc
 have z0:=cell_of_row _ _ 0 _ _ _ HB1.out
 have z1:=cell_of_row _ _ 1 _ _ _ HB1.out
 have z2:=cell_of_row _ _ 2 _ _ _ HB1.out
 obtain ⟨⟨k0,k1,k2,k3⟩,j0,j1,j2,j3⟩:=H1.out.rc
 have hrg:=(HRG.out t x y E1.out).2
 have HKP : Hid (∀ W2,Below W1.heap.size W1 W2→EfX w rb S S0 sec qs hs us Aa na ca Ah nh ch Au nu cu .nil W2∧W2.heap[b1]?=some (.cells #[.string t,.int .i64 x,.int .i64 y] 57 (0,0))):=Lib.hid (fun W2 hb=>⟨H1.out.below hb,(hb.block _ HL1.out).trans HB1.out⟩)
 by_cases hy : y < 1
 · have d1 : decide (y < 1)=true:=decide_eq_true hy
   have hPE : P=Rs.err 26:=by rw [← HP.out];simp only [spentE,E1.out,spendW];rw [if_pos (.inl hy)]
   subst hPE
   clear HP
   go_upto_region 2 with fail
   go_quiet ((fail))
   have HQ:=Lib.hid (HKP.out (W1.drewN nq) (below_drewN (Below.refl _ _) _)).1
   obtain ⟨w2,hw2⟩ : ∃ w2,W1.drewN nq=w2:=⟨_,rfl⟩
   rw [hw2] at HQ ⊢
   clear hw2 k0 k1 k2 k3 j0 j1 j2 j3 y0 y1 y2 y3 z0 z1 z2
   obtain ⟨⟨k0,k1,k2,k3⟩,j0,j1,j2,j3⟩:=HQ.out.rc
   go_wp2_with fail
   refine bodyPost_ret (v:=.tuple #[.agg #[.string ⟨#[]⟩,.slice none 0 0,.slice none 0 0,.slice none 0 0],.int .i64 26]) (by simp [results,Tryz.results24,go_sem,k0,k1,k2,k3]) rfl ?_
   exact (show EfY w rb S S0 sec qs hs us Aa na ca Ah nh ch Au nu cu .nil w2 from ⟨HQ.out,rfl,Nat.zero_le _⟩).fin (R:=Rs.err 26) (A1:=none) (A2:=none) (A3:=none) (c1:=0) (c2:=0) (c3:=0) WalM.nil_ (Below.refl _ _) _ _ _ _
 · have d1 : decide (y < 1)=false:=decide_eq_false hy
   have d2 : (y < 1)=False:=by simp;omega
   have HCN1:=Lib.hid (fun W h=>HCN.out t x W h)
   obtain ⟨k,hk⟩ : ∃ k,cntU (isU t x) us=k:=⟨_,rfl⟩
   rw [hk] at HCN1
   obtain ⟨m,hm⟩ : ∃ m,y - 1=m:=⟨_,rfl⟩
   have d3 : wrap64 (y - 1)=m:=by unfold wrap64;omega
   have d4 : IntKind.i64.wrap (y - 1)=m:=by simp only [IntKind.wrap,IntKind.bits,IntKind.signed];simp;omega
   have HYY:=Lib.hid hy
   have HK:=Lib.hid hk
   have HMM:=Lib.hid hm
   have HCC : Hid (∀ W2,Below W1.heap.size W1 W2→W2.cell? ⟨w.heap.size,0,none⟩=some (.string sec)∧W2.cell? ⟨w.heap.size,1,none⟩=some (.slice Aa na ca)∧W2.cell? ⟨w.heap.size,2,none⟩=some (.slice Ah nh ch)∧W2.cell? ⟨w.heap.size,3,none⟩=some (.slice Au nu cu)∧W2.cell? ⟨b1,0,none⟩=some (.string t)∧W2.cell? ⟨b1,1,none⟩=some (.int .i64 x)∧W2.cell? ⟨b1,2,none⟩=some (.int .i64 y)):=Lib.hid (fun W2 hb=>by
    obtain ⟨h1,h2⟩:=HKP.out W2 hb
    obtain ⟨e0,e1,e2,e3⟩:=h1.cc
    exact ⟨e0,e1,e2,e3,cell_of_row _ _ 0 _ _ _ h2,cell_of_row _ _ 1 _ _ _ h2,cell_of_row _ _ 2 _ _ _ h2⟩)
   have HB2 : Hid (Below W1.heap.size W1 W1.drew):=Lib.hid (Below.refl _ _).drew
   clear hk hm hrg k0 k1 k2 k3 j0 j1 j2 j3 hy
   go_upto_region 2 with fail
   go_region_held3 (fun w'=>w'.cell? ⟨w.heap.size,0,none⟩=some (.string sec)∧w'.cell? ⟨w.heap.size,1,none⟩=some (.slice Aa na ca)∧w'.cell? ⟨w.heap.size,2,none⟩=some (.slice Ah nh ch)∧w'.cell? ⟨w.heap.size,3,none⟩=some (.slice Au nu cu)∧w'.cell? ⟨b1,0,none⟩=some (.string t)∧w'.cell? ⟨b1,1,none⟩=some (.int .i64 x)∧w'.cell? ⟨b1,2,none⟩=some (.int .i64 y)) (first | exact HCC.out _ HB2.out | exact HCC.out _ (Below.refl _ _) | exact HCC.out _ (Below.refl _ _).drew | go_keep) (first
   | (go_at_call 51;(first | (with_reducible refine (HCN1.out _ H1.out).mono ?_) | (with_reducible refine (HCN1.out _ (H1.out.below (Below.refl _ _).drew)).mono ?_));rintro o w2 ⟨rfl,hb2⟩;have n2 : Below W1.heap.size W1 w2:=(by first | exact hb2 | exact (Below.refl _ _).drew.trans hb2);replace HB2:=Lib.hid n2;clear n2 hb2))
   all_goals
    obtain ⟨H2,HX2⟩:=HKP.out w2 HB2.out
    have H2:=Lib.hid H2
    have HX2:=Lib.hid HX2
    obtain ⟨u0,u1,u2,u3,u4,u5,u6⟩:=HCC.out w2 HB2.out
    clear y0 y1 y2 y3 z0 z1 z2
    by_cases hmk : m=k
    · have i1 : (m != k)=false:=by simp [hmk]
      have hPU : P=useW sec qs hs us (t,x,y):=by
       rw [← HP.out];simp only [spentE,E1.out]
       exact spendW_ok (by have:=HYY.out;omega) (by have:=HMM.out;have:=HK.out;omega)
      have HU2:=Lib.hid (HUSE.out t x y _ H2.out)
      obtain ⟨R,hR⟩ : ∃ R,useW sec qs hs us (t,x,y)=R:=⟨_,rfl⟩
      rw [hR] at HU2 hPU
      have HPU:=Lib.hid hPU
      unfold GotN at HU2
      have HY2:=Lib.hid (show EfY w rb S S0 sec qs hs us Aa na ca Ah nh ch Au nu cu .nil w2 from ⟨H2.out,rfl,Nat.zero_le _⟩)
      subst hmk
      clear hR hPU
      go_wp2_with (go_at_call 52;(with_reducible refine HU2.out.mono ?_);rintro o w7 ⟨A1,c1,A2,c2,A3,c3,rfl,hm7,hb7⟩;have H7:=Lib.hid (HY2.out.below hb7);obtain ⟨⟨r0,r1,r2,r3⟩,g0,g1,g2,g3⟩:=H7.out.1.rc;have HF:=Lib.hid (HY2.out.fin (R:=R) (c1:=c1) (c2:=c2) (c3:=c3) hm7 hb7);clear hm7 hb7)
      refine bodyPost_ret (v:=.tuple #[.agg #[.string R.sec,.slice A1 R.qs.length c1,.slice A2 R.hs.length c2,.slice A3 R.us.length c3],.int .i64 R.z]) (by simp [results,Tryz.results24,go_sem,r0,r1,r2,r3]) rfl ?_
      rw [HPU.out]
      exact HF.out _ _ _ _
    · have i1 : (m != k)=true:=by simp [hmk]
      have hPE : P=Rs.err 26:=by
       rw [← HP.out];simp only [spentE,E1.out]
       exact spendW_bad (by have:=HMM.out;have:=HK.out;omega)
      subst hPE
      have HMK:=Lib.hid hmk
      clear HP hmk
      obtain ⟨⟨k0,k1,k2,k3⟩,j0,j1,j2,j3⟩:=H2.out.rc
      go_wp2_with fail
      refine bodyPost_ret (v:=.tuple #[.agg #[.string ⟨#[]⟩,.slice none 0 0,.slice none 0 0,.slice none 0 0],.int .i64 26]) (by simp [results,Tryz.results24,go_sem,k0,k1,k2,k3]) rfl ?_
      exact (show EfY w rb S S0 sec qs hs us Aa na ca Ah nh ch Au nu cu .nil w2 from ⟨H2.out,rfl,Nat.zero_le _⟩).fin (R:=Rs.err 26) (A1:=none) (A2:=none) (A3:=none) (c1:=0) (c2:=0) (c3:=0) WalM.nil_ (Below.refl _ _) _ _ _ _
theorem eff_counted (sec : ByteArray) (qs : List Az) (hs : List Hz) (us : List Uz) (Aa Ah Au : Option Addr) (na ca nh ch nu cu : Nat) (rb : Nat) (S S0 : Nat→Prop) (w : World) (hq : qs.length=na) (hn : hs.length=nh) (hu : us.length=nu) (hma : na < 4096) (hmh : nh < 4096) (hmu : nu < 4096) (hatt : ∀ x ∈ hs,x.att.length≤100000) (l : Its) (hok : okI l=true) (hsz : l.size≤10000)
  (hin : InI w rb S l) (hr : rb < w.heap.size) (hS : ∀ g,S g→g < w.heap.size∧g≠rb) (hm : WalM w S0 qs hs us Aa Ah Au) (hS0 : ∀ g,S0 g→g < w.heap.size∧g≠rb) :
  Calls Tryz.prog 26 #[.agg #[.string sec,.slice Aa na ca,.slice Ah nh ch,.slice Au nu cu],.pointer (some ⟨rb,0,none⟩)] w (EffO w rb (countedE sec qs hs us l)):=by
 have H0:=Lib.hid (show EfY w rb S S0 sec qs hs us Aa na ca Ah nh ch Au nu cu l _ from ⟨EfX.start (sec:=sec) (na:=na) (ca:=ca) (nh:=nh) (ch:=ch) (nu:=nu) (cu:=cu) hin hr hS hm hS0,hok,hsz⟩)
 obtain ⟨P,hP⟩ : ∃ P,countedE sec qs hs us l=P:=⟨_,rfl⟩
 rw [hP]
 have HP:=Lib.hid hP
 have HUSE:=Lib.hid (fun t x y W (h : EfX w rb S S0 sec qs hs us Aa na ca Ah nh ch Au nu cu .nil W)=>use_got sec qs hs us Aa Ah Au na ca nh ch nu cu S0 W hq hn hu hma hmh hmu hatt h.mem h.lt0 t x y)
 have HCN:=Lib.hid (fun t x W (h : EfX w rb S S0 sec qs hs us Aa na ca Ah nh ch Au nu cu .nil W)=>wal_find us Au nu cu S0 sec Aa Ah na ca nh ch t x W hu (by omega) h.mem.u h.lt0)
 have HUD:=Lib.hid (ey_used w rb S S0 sec qs hs us Aa Ah Au na ca nh ch nu cu l _ H0.out)
 have HRG:=Lib.hid (fun (t : ByteArray) (x y : Int) (h : usedO l=some (t,x,y))=>(usedO_some hok h).2)
 clear hq hn hu hma hmh hmu hatt hin hr hS hm hS0 hok hsz hP
 go_enter Tryz.func26, Tryz.ntmps26
 go_upto_region 2 with (go_at_call 66;(with_reducible refine HUD.out.mono ?_);rintro o w1 (⟨t,x,y,e1,rfl,h1⟩ | ⟨e1,rfl,hg⟩);rotate_left;exact ⟨rfl,.inr ⟨by rw [← HP.out];simp only [countedE,e1],rfl,hg⟩⟩;have E1:=Lib.hid e1;have H1:=Lib.hid (h1.below ((Below.refl _ _).alloc (Nat.le_refl _) (.cells #[.string t,.int .i64 x,.int .i64 y] 57)));have HB1:=Lib.hid (heap_alloc_new w1 (.cells #[.string t,.int .i64 x,.int .i64 y] 57));clear e1 h1 HUD)
 obtain ⟨W1,hW1⟩ : ∃ W1,w1.alloc (.cells #[.string t,.int .i64 x,.int .i64 y] 57)=W1:=⟨_,rfl⟩
 obtain ⟨b1,hb1⟩ : ∃ b1,w1.heap.size=b1:=⟨_,rfl⟩
 rw [hW1] at H1 HB1 ⊢
 rw [hb1] at HB1 ⊢
 have HL1 : Hid (b1 < W1.heap.size):=Lib.hid (by rw [← hW1,← hb1];simp)
 clear hW1 hb1
 obtain ⟨y0,y1,y2,y3⟩:=H1.out.cc
 have z0:=cell_of_row _ _ 0 _ _ _ HB1.out
 have z1:=cell_of_row _ _ 1 _ _ _ HB1.out
 have z2:=cell_of_row _ _ 2 _ _ _ HB1.out
 obtain ⟨⟨k0,k1,k2,k3⟩,j0,j1,j2,j3⟩:=H1.out.rc
 have hrg:=(HRG.out t x y E1.out).2
 have HCC : Hid (∀ W2,Below W1.heap.size W1 W2→EfX w rb S S0 sec qs hs us Aa na ca Ah nh ch Au nu cu .nil W2∧W2.heap[b1]?=some (.cells #[.string t,.int .i64 x,.int .i64 y] 57 (0,0))):=Lib.hid (fun W2 hb=>⟨H1.out.below hb,(hb.block _ HL1.out).trans HB1.out⟩)
 by_cases hy : y < 1
 · have d1 : decide (y < 1)=true:=decide_eq_true hy
   have hPE : P=Rs.err 26:=by rw [← HP.out];simp only [countedE,E1.out,countW];rw [if_pos hy]
   subst hPE
   clear HP
   go_wp2_with fail
   refine bodyPost_ret (v:=.tuple #[.agg #[.string ⟨#[]⟩,.slice none 0 0,.slice none 0 0,.slice none 0 0],.int .i64 26]) (by simp [results,Tryz.results26,go_sem,k0,k1,k2,k3]) rfl ?_
   exact (show EfY w rb S S0 sec qs hs us Aa na ca Ah nh ch Au nu cu .nil W1 from ⟨H1.out,rfl,Nat.zero_le _⟩).fin (R:=Rs.err 26) (A1:=none) (A2:=none) (A3:=none) (c1:=0) (c2:=0) (c3:=0) WalM.nil_ (Below.refl _ _) _ _ _ _
 · have d1 : decide (y < 1)=false:=decide_eq_false hy
   have HFD:=Lib.hid (HCN.out t x _ H1.out)
   obtain ⟨d,hd⟩ : ∃ d,idxU (isU t x) us 0=d:=⟨_,rfl⟩
   rw [hd] at HFD
   have HD:=Lib.hid hd
   have HY:=Lib.hid hy
   clear hd hrg k0 k1 k2 k3 j0 j1 j2 j3 hy
   by_cases hdd : 0≤d
   · have i1 : decide ((0 : Int)≤d)=true:=decide_eq_true hdd
     have hPE : P=Rs.err 8:=by
      rw [← HP.out];simp only [countedE,E1.out,countW]
      rw [if_neg (by have:=HY.out;omega),if_pos (by rw [HD.out];exact hdd)]
     subst hPE
     clear HP HD
     go_wp2_with (go_at_call 68;(with_reducible refine HFD.out.mono ?_);rintro o w2 ⟨rfl,hb2⟩;have H2:=Lib.hid (HCC.out _ hb2).1;obtain ⟨⟨k0,k1,k2,k3⟩,j0,j1,j2,j3⟩:=H2.out.rc;clear hb2)
     refine bodyPost_ret (v:=.tuple #[.agg #[.string ⟨#[]⟩,.slice none 0 0,.slice none 0 0,.slice none 0 0],.int .i64 8]) (by simp [results,Tryz.results26,go_sem,k0,k1,k2,k3]) rfl ?_
     exact (show EfY w rb S S0 sec qs hs us Aa na ca Ah nh ch Au nu cu .nil w2 from ⟨H2.out,rfl,Nat.zero_le _⟩).fin (R:=Rs.err 8) (A1:=none) (A2:=none) (A3:=none) (c1:=0) (c2:=0) (c3:=0) WalM.nil_ (Below.refl _ _) _ _ _ _
   · have i1 : decide ((0 : Int)≤d)=false:=decide_eq_false hdd
     have hPU : P=useW sec qs hs us (t,x,y):=by
      rw [← HP.out];simp only [countedE,E1.out,countW]
      rw [if_neg (by have:=HY.out;omega),if_neg (by rw [HD.out];exact hdd)]
     have HU2:=Lib.hid (fun W h=>HUSE.out t x y W h)
     obtain ⟨R,hR⟩ : ∃ R,useW sec qs hs us (t,x,y)=R:=⟨_,rfl⟩
     rw [hR] at HU2 hPU
     have HPU:=Lib.hid hPU
     unfold GotN at HU2
     clear hR hPU
     go_upto_region 4 with fail
     go_upto_region 6 with (go_at_call 68;(with_reducible refine HFD.out.mono ?_);rintro o w2 ⟨rfl,hb2⟩;have H2:=Lib.hid (HCC.out _ hb2).1;have HX2:=Lib.hid (HCC.out _ hb2).2;have HY2:=Lib.hid (show EfY w rb S S0 sec qs hs us Aa na ca Ah nh ch Au nu cu .nil w2 from ⟨(HCC.out _ hb2).1,rfl,Nat.zero_le _⟩);obtain ⟨u0,u1,u2,u3⟩:=H2.out.cc;have u4:=cell_of_row _ _ 0 _ _ _ HX2.out;have u5:=cell_of_row _ _ 1 _ _ _ HX2.out;have u6:=cell_of_row _ _ 2 _ _ _ HX2.out;have HU3:=Lib.hid (HU2.out _ H2.out);clear hb2)
     go_wp2_with (go_at_call 52;(with_reducible refine HU3.out.mono ?_);rintro o w7 ⟨A1,c1,A2,c2,A3,c3,rfl,hm7,hb7⟩;have H7:=Lib.hid (HY2.out.below hb7);obtain ⟨⟨r0,r1,r2,r3⟩,g0,g1,g2,g3⟩:=H7.out.1.rc;have HF:=Lib.hid (HY2.out.fin (R:=R) (c1:=c1) (c2:=c2) (c3:=c3) hm7 hb7);clear hm7 hb7)
     refine bodyPost_ret (v:=.tuple #[.agg #[.string R.sec,.slice A1 R.qs.length c1,.slice A2 R.hs.length c2,.slice A3 R.us.length c3],.int .i64 R.z]) (by simp [results,Tryz.results26,go_sem,r0,r1,r2,r3]) rfl ?_
     rw [HPU.out]
     exact HF.out _ _ _ _
def heldE (sec : ByteArray) (qs : List Az) (hs : List Hz) (us : List Uz) (l : Its) : Rs:=match heldO l with | none=>Rs.err 4 | some p=>storeW sec qs hs us p.1 p.2
def renewedE (sec : ByteArray) (qs : List Az) (hs : List Hz) (us : List Uz) (l : Its) : Rs:=match renewO l with | none=>Rs.err 4 | some p=>renewW sec qs hs us p.1 p.2
def keptE (sec : ByteArray) (qs : List Az) (hs : List Hz) (us : List Uz) (l : Its) : Rs:=match keptO l with | none=>Rs.err 4 | some x=>keepW sec qs hs us x
section
variable (w : World) (rb : Nat) (S S0 : Nat→Prop) (sec : ByteArray) (qs : List Az) (hs : List Hz) (us : List Uz) (Aa Ah Au : Option Addr) (na ca nh ch nu cu : Nat)
def EyH (p : Option (Hz × Its)) (o : Ending) (w' : World) : Prop :=
 (∃ x r A n c,p=some (x,r)∧o=.returned (.agg #[.string x.iss,.string x.sch,.int .i64 x.ver,.slice A n c,.string x.a,.string x.e,.string x.v,.int .i64 x.ep,.string x.wit])∧x.att.length=n∧n≤10000∧RowC w' (fun g=>w.heap.size+2≤g∧g < w'.heap.size) A n (cellsN x.att)∧EfY w rb S S0 sec qs hs us Aa na ca Ah nh ch Au nu cu r w')∨(p=none∧PanF w rb o w')
theorem ey_held (l : Its) (W : World) (h : EfY w rb S S0 sec qs hs us Aa na ca Ah nh ch Au nu cu l W) :
  Calls Tryz.prog 62 #[.pointer (some ⟨rb,0,none⟩)] W (EyH w rb S S0 sec qs hs us Aa Ah Au na ca nh ch nu cu (rHeld l)):=by
 obtain ⟨hx,hok,hsz⟩:=h
 refine (wal_heldA l rb S W hx.inn hok hsz hx.far).mono ?_
 rintro o w' (⟨x,r,A,c,e,rfl,hrow,hi,hg⟩ | ⟨e,rfl,hg⟩)
 · obtain ⟨e2,ho,_⟩:=rHeld_some hok e
   have hs2:=size_tail (e2 ▸ hsz)
   have hl : x.att.length≤10000:=by
    have h1:=hs2.1
    unfold heldL at h1
    simp only [Its.size,natsI_size] at h1
    omega
   exact .inl ⟨x,r,A,_,c,e,rfl,rfl,hl,hrow.mono (fun g hg=>⟨by have:=hx.size;omega,hg.2⟩),hx.gb hg hi,ho,hs2.2⟩
 · exact .inr ⟨e,rfl,hx.gr.trans hg⟩
end
section
variable {w W w' : World} {rb : Nat} {S S0 : Nat→Prop} {sec : ByteArray} {qs : List Az} {hs : List Hz} {us : List Uz} {Aa Ah Au : Option Addr} {na ca nh ch nu cu : Nat} {l : Its}
theorem EfY.fin2 (h : EfX w rb S S0 sec qs hs us Aa na ca Ah nh ch Au nu cu l W) {R : Rs} {A1 A2 A3 : Option Addr} {c1 c2 c3 : Nat}
  (hm : WalM W (fun g=>w.heap.size+2≤g∧g < W.heap.size) R.qs R.hs R.us A1 A2 A3) (v0 v1 v2 v3 : Value) :
  EffO w rb R (.returned (.tuple #[.agg #[.string R.sec,.slice A1 R.qs.length c1,.slice A2 R.hs.length c2,.slice A3 R.us.length c3],.int .i64 R.z])) ((((W.setCell ⟨w.heap.size+1,0,none⟩ v0).setCell ⟨w.heap.size+1,1,none⟩ v1).setCell ⟨w.heap.size+1,2,none⟩ v2).setCell ⟨w.heap.size+1,3,none⟩ v3):=by
 have hz:=h.size
 have hg : W.grownBy ((((W.setCell ⟨w.heap.size+1,0,none⟩ v0).setCell ⟨w.heap.size+1,1,none⟩ v1).setCell ⟨w.heap.size+1,2,none⟩ v2).setCell ⟨w.heap.size+1,3,none⟩ v3) (some (w.heap.size+1)):=((gb_set.trans gb_set).trans gb_set).trans gb_set
 refine .inl ⟨A1,c1,A2,c2,A3,c3,rfl,(hm.keep (fun p hp=>hg.cell_far p hp.2 (fun e=>by injection e;have:=hp.1;omega))).mono (fun g hg'=>⟨by have:=hg'.1;omega,Nat.lt_of_lt_of_le hg'.2 hg.size⟩),?_⟩
 exact gb_new h.gr hg (fun k e=>by injection e;omega)
end
theorem EfX.far7 {w W w' : World} {rb b : Nat} {S S0 : Nat→Prop} {sec : ByteArray} {qs : List Az} {hs : List Hz} {us : List Uz} {Aa Ah Au : Option Addr} {na ca nh ch nu cu : Nat} {l : Its} (h : EfX w rb S S0 sec qs hs us Aa na ca Ah nh ch Au nu cu l W) (hb : Below b W w') (hz : w.heap.size+2≤b) : EfX w rb S S0 sec qs hs us Aa na ca Ah nh ch Au nu cu l w':=by
 have h3:=h.rlt
 obtain ⟨A,c,i1,i2,i3⟩:=h.inn
 exact ⟨(hb.block _ (by omega)).trans h.st,(hb.block _ (by omega)).trans h.res,⟨hb.os.trans h.gr.os,hb.tape.trans h.gr.tape,hb.output.trans h.gr.output,Nat.le_trans h.gr.size hb.size,fun k hk hne=>(hb.block k (by omega)).trans (h.gr.block k hk hne)⟩,Nat.le_trans h.size hb.size,⟨A,c,i1,i2.keep (fun p hp=>hb.cell (by have:=(h.own _ hp).1;omega)),(hb.block _ (by omega)).trans i3⟩,h.mem.keep (fun p hp=>hb.cell (by have:=(h.own0 _ hp).1;omega)),h3,h.own,h.own0⟩
theorem owns_row_ne {w : World} {base n b : Nat} {e : TypeId} {k : Nat} {A : Option Addr} {c : Nat} {xs : List Value} (o : w.ownsRow base e k (.slice A n c) n xs) (hb : (Value.slice A n c).ownBlock≠some b) : RowC w (fun g=>base≤g∧g < w.heap.size∧g≠b) A n xs:=by
 intro h0
 obtain ⟨g,off,e1,hg,hc⟩:=owns_row o h0
 refine ⟨g,off,e1,⟨hg.1,hg.2,fun e2=>hb ?_⟩,hc⟩
 subst e1 e2
 rcases o.2 with ⟨e3,_⟩ | ⟨g',cap,cur,e3,_⟩
 · cases e3
 · injection e3 with e3
   injection e3 with e3
   injection e3 with e3 e4
   subst e3 e4
   rfl
theorem eff_held (sec : ByteArray) (qs : List Az) (hs : List Hz) (us : List Uz) (Aa Ah Au : Option Addr) (na ca nh ch nu cu : Nat) (rb : Nat) (S S0 : Nat→Prop) (w : World) (hq : qs.length=na) (hn : hs.length=nh) (hu : us.length=nu) (hma : na < 4096) (hmh : nh < 4096) (hmu : nu < 4096) (hatt : ∀ x ∈ hs,x.att.length≤100000) (l : Its) (hok : okI l=true) (hsz : l.size≤10000) (hva : validA [] qs=true)
  (hin : InI w rb S l) (hr : rb < w.heap.size) (hS : ∀ g,S g→g < w.heap.size∧g≠rb) (hm : WalM w S0 qs hs us Aa Ah Au) (hS0 : ∀ g,S0 g→g < w.heap.size∧g≠rb) :
  Calls Tryz.prog 22 #[.agg #[.string sec,.slice Aa na ca,.slice Ah nh ch,.slice Au nu cu],.pointer (some ⟨rb,0,none⟩)] w (EffO w rb (heldE sec qs hs us l)):=by
 have H0:=Lib.hid (show EfY w rb S S0 sec qs hs us Aa na ca Ah nh ch Au nu cu l _ from ⟨EfX.start (sec:=sec) (na:=na) (ca:=ca) (nh:=nh) (ch:=ch) (nu:=nu) (cu:=cu) hin hr hS hm hS0,hok,hsz⟩)
 obtain ⟨P,hP⟩ : ∃ P,heldE sec qs hs us l=P:=⟨_,rfl⟩
 rw [hP]
 have HP:=Lib.hid hP
 have HA:=Lib.hid (fun (k : ByteArray) x A n c l W (h : EfY w rb S S0 sec qs hs us Aa na ca Ah nh ch Au nu cu l W) (hnx : x.att.length=n) (hmn : n≤100000) (hrow : RowC W (fun g=>g < W.heap.size) A n (cellsN x.att))=>store_got sec qs hs us Aa Ah Au na ca nh ch nu cu (fun g=>g < W.heap.size) W hq hn hu hma hmh hmu hatt (h.1.mem.mono (fun g hg=>h.1.lt0 g hg)) (fun g hg=>hg) k x A n c hva hnx hmn hrow)
 unfold valH at HA
 have HT1:=Lib.hid (ey_text w rb S S0 sec qs hs us Aa Ah Au na ca nh ch nu cu l _ H0.out)
 have HH:=Lib.hid (fun r W h=>ey_held w rb S S0 sec qs hs us Aa Ah Au na ca nh ch nu cu r W h)
 unfold EyH at HH
 clear hq hn hu hma hmh hmu hatt hin hr hS hm hS0 hok hsz hP
 go_enter Tryz.func22, Tryz.ntmps22
 go_upto_region 2 with (first
  | (go_at_call 27;(with_reducible refine HT1.out.mono ?_);rintro o w1 (⟨k,r1,e1,rfl,h1⟩ | ⟨e1,rfl,hg⟩);rotate_left;exact ⟨rfl,.inr ⟨by rw [← HP.out];simp only [heldE,heldO,e1],rfl,hg⟩⟩;have E1:=Lib.hid e1;have HH1:=Lib.hid (HH.out _ _ h1);clear h1 e1 HT1)
  | (go_at_call 62;(with_reducible refine HH1.out.mono ?_);rintro o w2 (⟨x,r2,A,n,c,e2,rfl,hnx,hmn,hrow,h2⟩ | ⟨e2,rfl,hg⟩);rotate_left;exact ⟨rfl,.inr ⟨by rw [← HP.out];simp only [heldE,heldO,keptO,E1.out,e2],rfl,hg⟩⟩;have E2:=Lib.hid e2;have hal : Below w2.heap.size w2 (w2.alloc (.cells #[.string x.iss,.string x.sch,.int .i64 x.ver,.slice A n c,.string x.a,.string x.e,.string x.v,.int .i64 x.ep,.string x.wit] 47)):=(Below.refl _ _).alloc (Nat.le_refl _) _;have H2:=Lib.hid (h2.below hal);have HB2:=Lib.hid (heap_alloc_new w2 (.cells #[.string x.iss,.string x.sch,.int .i64 x.ver,.slice A n c,.string x.a,.string x.e,.string x.v,.int .i64 x.ep,.string x.wit] 47));have HR2:=Lib.hid ((hrow.keep (fun p hp=>hal.cell hp.2)).mono (S':=fun g=>w.heap.size+2≤g∧g < (w2.alloc (.cells #[.string x.iss,.string x.sch,.int .i64 x.ver,.slice A n c,.string x.a,.string x.e,.string x.v,.int .i64 x.ep,.string x.wit] 47)).heap.size) (fun g hg=>⟨hg.1,Nat.lt_of_lt_of_le hg.2 hal.size⟩));have HNX:=Lib.hid (And.intro hnx hmn);clear h2 hrow hal e2 hnx hmn HH1))
 obtain ⟨W2,hW2⟩ : ∃ W2,w2.alloc (.cells #[.string x.iss,.string x.sch,.int .i64 x.ver,.slice A n c,.string x.a,.string x.e,.string x.v,.int .i64 x.ep,.string x.wit] 47)=W2:=⟨_,rfl⟩
 obtain ⟨b2,hb2⟩ : ∃ b2,w2.heap.size=b2:=⟨_,rfl⟩
 have HL2 : Hid (b2 < W2.heap.size):=Lib.hid (by rw [← hW2,← hb2];simp)
 rw [hW2] at H2 HB2 HR2 ⊢
 rw [hb2] at HB2 ⊢
 clear hW2 hb2
 have HE:=Lib.hid (ey_end w rb S S0 sec qs hs us Aa Ah Au na ca nh ch nu cu r2 _ H2.out)
 go_upto_region 3 with (go_at_call 59;(with_reducible refine HE.out.mono ?_);rintro o w6 (⟨e3,rfl,rfl⟩ | ⟨e3,rfl,hg⟩);rotate_left;exact ⟨rfl,.inr ⟨by rw [← HP.out];simp only [heldE,heldO,keptO,E1.out,E2.out,e3],rfl,hg⟩⟩;have E3:=Lib.hid e3;clear e3)
 obtain ⟨y0,y1,y2,y3⟩:=H2.out.1.cc
 have z0:=cell_of_row _ _ 0 _ _ _ HB2.out
 have z1:=cell_of_row _ _ 1 _ _ _ HB2.out
 have z2:=cell_of_row _ _ 2 _ _ _ HB2.out
 have z3:=cell_of_row _ _ 3 _ _ _ HB2.out
 have z4:=cell_of_row _ _ 4 _ _ _ HB2.out
 have z5:=cell_of_row _ _ 5 _ _ _ HB2.out
 have z6:=cell_of_row _ _ 6 _ _ _ HB2.out
 have z7:=cell_of_row _ _ 7 _ _ _ HB2.out
 have z8:=cell_of_row _ _ 8 _ _ _ HB2.out
 have HAW:=Lib.hid (HA.out k x A n c _ _ H2.out HNX.out.1 (by have:=HNX.out.2;omega) (HR2.out.mono (fun g hg=>hg.2)))
 obtain ⟨R,hR⟩ : ∃ R,storeW sec qs hs us k x=R:=⟨_,rfl⟩
 rw [hR] at HAW
 unfold GotN at HAW
 have HR:=Lib.hid hR
 clear hR
 go_wp2_with (go_at_call 63;(with_reducible refine HAW.out.mono ?_);rintro o w7 ⟨A1,c1,A2,c2,A3,c3,rfl,hm7,hb7⟩;have H7:=Lib.hid (H2.out.below hb7);obtain ⟨⟨r0,r1,r2,r3⟩,g0,g1,g2,g3⟩:=H7.out.1.rc;have HF:=Lib.hid (H2.out.fin (R:=R) (c1:=c1) (c2:=c2) (c3:=c3) hm7 hb7);clear hm7 hb7)
 refine bodyPost_ret (v:=.tuple #[.agg #[.string R.sec,.slice A1 R.qs.length c1,.slice A2 R.hs.length c2,.slice A3 R.us.length c3],.int .i64 R.z]) (by simp [results,Tryz.results22,go_sem,r0,r1,r2,r3]) rfl ?_
 rw [show P=R by rw [← HP.out,← HR.out];simp only [heldE,heldO,keptO,E1.out,E2.out,E3.out]]
 exact HF.out _ _ _ _
theorem eff_renewed (sec : ByteArray) (qs : List Az) (hs : List Hz) (us : List Uz) (Aa Ah Au : Option Addr) (na ca nh ch nu cu : Nat) (rb : Nat) (S S0 : Nat→Prop) (w : World) (hq : qs.length=na) (hn : hs.length=nh) (hu : us.length=nu) (hma : na < 4096) (hmh : nh < 4096) (hmu : nu < 4096) (hatt : ∀ x ∈ hs,x.att.length≤100000) (l : Its) (hok : okI l=true) (hsz : l.size≤10000)
  (hin : InI w rb S l) (hr : rb < w.heap.size) (hS : ∀ g,S g→g < w.heap.size∧g≠rb) (hm : WalM w S0 qs hs us Aa Ah Au) (hS0 : ∀ g,S0 g→g < w.heap.size∧g≠rb) :
  Calls Tryz.prog 23 #[.agg #[.string sec,.slice Aa na ca,.slice Ah nh ch,.slice Au nu cu],.pointer (some ⟨rb,0,none⟩)] w (EffO w rb (renewedE sec qs hs us l)):=by
 have H0:=Lib.hid (show EfY w rb S S0 sec qs hs us Aa na ca Ah nh ch Au nu cu l _ from ⟨EfX.start (sec:=sec) (na:=na) (ca:=ca) (nh:=nh) (ch:=ch) (nu:=nu) (cu:=cu) hin hr hS hm hS0,hok,hsz⟩)
 obtain ⟨P,hP⟩ : ∃ P,renewedE sec qs hs us l=P:=⟨_,rfl⟩
 rw [hP]
 have HP:=Lib.hid hP
 have HA:=Lib.hid (fun (k : Int) x A n c l W (h : EfY w rb S S0 sec qs hs us Aa na ca Ah nh ch Au nu cu l W) (hnx : x.att.length=n) (hmn : n≤100000) (hrow : RowC W (fun g=>g < W.heap.size) A n (cellsN x.att))=>renew_got sec qs hs us Aa Ah Au na ca nh ch nu cu (fun g=>g < W.heap.size) W hq hn hu hma hmh hmu hatt (h.1.mem.mono (fun g hg=>h.1.lt0 g hg)) (fun g hg=>hg) k x A n c hnx hmn hrow)
 unfold valH at HA
 have HT1:=Lib.hid (ey_number w rb S S0 sec qs hs us Aa Ah Au na ca nh ch nu cu l _ H0.out)
 have HH:=Lib.hid (fun r W h=>ey_held w rb S S0 sec qs hs us Aa Ah Au na ca nh ch nu cu r W h)
 unfold EyH at HH
 clear hq hn hu hma hmh hmu hatt hin hr hS hm hS0 hok hsz hP
 go_enter Tryz.func23, Tryz.ntmps23
 go_upto_region 2 with (first
  | (go_at_call 64;(with_reducible refine HT1.out.mono ?_);rintro o w1 (⟨k,r1,e1,rfl,h1⟩ | ⟨e1,rfl,hg⟩);rotate_left;exact ⟨rfl,.inr ⟨by rw [← HP.out];simp only [renewedE,renewO,e1],rfl,hg⟩⟩;have E1:=Lib.hid e1;have HH1:=Lib.hid (HH.out _ _ h1);clear h1 e1 HT1)
  | (go_at_call 62;(with_reducible refine HH1.out.mono ?_);rintro o w2 (⟨x,r2,A,n,c,e2,rfl,hnx,hmn,hrow,h2⟩ | ⟨e2,rfl,hg⟩);rotate_left;exact ⟨rfl,.inr ⟨by rw [← HP.out];simp only [renewedE,renewO,keptO,E1.out,e2],rfl,hg⟩⟩;have E2:=Lib.hid e2;have hal : Below w2.heap.size w2 (w2.alloc (.cells #[.string x.iss,.string x.sch,.int .i64 x.ver,.slice A n c,.string x.a,.string x.e,.string x.v,.int .i64 x.ep,.string x.wit] 47)):=(Below.refl _ _).alloc (Nat.le_refl _) _;have H2:=Lib.hid (h2.below hal);have HB2:=Lib.hid (heap_alloc_new w2 (.cells #[.string x.iss,.string x.sch,.int .i64 x.ver,.slice A n c,.string x.a,.string x.e,.string x.v,.int .i64 x.ep,.string x.wit] 47));have HR2:=Lib.hid ((hrow.keep (fun p hp=>hal.cell hp.2)).mono (S':=fun g=>w.heap.size+2≤g∧g < (w2.alloc (.cells #[.string x.iss,.string x.sch,.int .i64 x.ver,.slice A n c,.string x.a,.string x.e,.string x.v,.int .i64 x.ep,.string x.wit] 47)).heap.size) (fun g hg=>⟨hg.1,Nat.lt_of_lt_of_le hg.2 hal.size⟩));have HNX:=Lib.hid (And.intro hnx hmn);clear h2 hrow hal e2 hnx hmn HH1))
 obtain ⟨W2,hW2⟩ : ∃ W2,w2.alloc (.cells #[.string x.iss,.string x.sch,.int .i64 x.ver,.slice A n c,.string x.a,.string x.e,.string x.v,.int .i64 x.ep,.string x.wit] 47)=W2:=⟨_,rfl⟩
 obtain ⟨b2,hb2⟩ : ∃ b2,w2.heap.size=b2:=⟨_,rfl⟩
 have HL2 : Hid (b2 < W2.heap.size):=Lib.hid (by rw [← hW2,← hb2];simp)
 rw [hW2] at H2 HB2 HR2 ⊢
 rw [hb2] at HB2 ⊢
 clear hW2 hb2
 have HE:=Lib.hid (ey_end w rb S S0 sec qs hs us Aa Ah Au na ca nh ch nu cu r2 _ H2.out)
 go_upto_region 3 with (go_at_call 59;(with_reducible refine HE.out.mono ?_);rintro o w6 (⟨e3,rfl,rfl⟩ | ⟨e3,rfl,hg⟩);rotate_left;exact ⟨rfl,.inr ⟨by rw [← HP.out];simp only [renewedE,renewO,keptO,E1.out,E2.out,e3],rfl,hg⟩⟩;have E3:=Lib.hid e3;clear e3)
 obtain ⟨y0,y1,y2,y3⟩:=H2.out.1.cc
 have z0:=cell_of_row _ _ 0 _ _ _ HB2.out
 have z1:=cell_of_row _ _ 1 _ _ _ HB2.out
 have z2:=cell_of_row _ _ 2 _ _ _ HB2.out
 have z3:=cell_of_row _ _ 3 _ _ _ HB2.out
 have z4:=cell_of_row _ _ 4 _ _ _ HB2.out
 have z5:=cell_of_row _ _ 5 _ _ _ HB2.out
 have z6:=cell_of_row _ _ 6 _ _ _ HB2.out
 have z7:=cell_of_row _ _ 7 _ _ _ HB2.out
 have z8:=cell_of_row _ _ 8 _ _ _ HB2.out
 have HAW:=Lib.hid (HA.out k x A n c _ _ H2.out HNX.out.1 (by have:=HNX.out.2;omega) (HR2.out.mono (fun g hg=>hg.2)))
 obtain ⟨R,hR⟩ : ∃ R,renewW sec qs hs us k x=R:=⟨_,rfl⟩
 rw [hR] at HAW
 unfold GotN at HAW
 have HR:=Lib.hid hR
 clear hR
 go_wp2_with (go_at_call 65;(with_reducible refine HAW.out.mono ?_);rintro o w7 ⟨A1,c1,A2,c2,A3,c3,rfl,hm7,hb7⟩;have H7:=Lib.hid (H2.out.below hb7);obtain ⟨⟨r0,r1,r2,r3⟩,g0,g1,g2,g3⟩:=H7.out.1.rc;have HF:=Lib.hid (H2.out.fin (R:=R) (c1:=c1) (c2:=c2) (c3:=c3) hm7 hb7);clear hm7 hb7)
 refine bodyPost_ret (v:=.tuple #[.agg #[.string R.sec,.slice A1 R.qs.length c1,.slice A2 R.hs.length c2,.slice A3 R.us.length c3],.int .i64 R.z]) (by simp [results,Tryz.results23,go_sem,r0,r1,r2,r3]) rfl ?_
 rw [show P=R by rw [← HP.out,← HR.out];simp only [renewedE,renewO,keptO,E1.out,E2.out,E3.out]]
 exact HF.out _ _ _ _
theorem eff_kept (sec : ByteArray) (qs : List Az) (hs : List Hz) (us : List Uz) (Aa Ah Au : Option Addr) (na ca nh ch nu cu : Nat) (rb : Nat) (S S0 : Nat→Prop) (w : World) (hq : qs.length=na) (hn : hs.length=nh) (hu : us.length=nu) (hma : na < 4096) (hmh : nh < 4096) (hmu : nu < 4096) (hatt : ∀ x ∈ hs,x.att.length≤100000) (l : Its) (hok : okI l=true) (hsz : l.size≤10000)
  (hin : InI w rb S l) (hr : rb < w.heap.size) (hS : ∀ g,S g→g < w.heap.size∧g≠rb) (hm : WalM w S0 qs hs us Aa Ah Au) (hS0 : ∀ g,S0 g→g < w.heap.size∧g≠rb) :
  Calls Tryz.prog 25 #[.agg #[.string sec,.slice Aa na ca,.slice Ah nh ch,.slice Au nu cu],.pointer (some ⟨rb,0,none⟩)] w (EffO w rb (keptE sec qs hs us l)):=by
 have H0:=Lib.hid (show EfY w rb S S0 sec qs hs us Aa na ca Ah nh ch Au nu cu l _ from ⟨EfX.start (sec:=sec) (na:=na) (ca:=ca) (nh:=nh) (ch:=ch) (nu:=nu) (cu:=cu) hin hr hS hm hS0,hok,hsz⟩)
 obtain ⟨P,hP⟩ : ∃ P,keptE sec qs hs us l=P:=⟨_,rfl⟩
 rw [hP]
 have HP:=Lib.hid hP
 have HC:=Lib.hid (fun l W (h : EfX w rb S S0 sec qs hs us Aa na ca Ah nh ch Au nu cu l W)=>wal_copied sec qs hs us Aa Ah Au na ca nh ch nu cu S0 W hq hn hu (by omega) (by omega) (by omega) hatt h.mem h.lt0)
 have HH1:=Lib.hid (ey_held w rb S S0 sec qs hs us Aa Ah Au na ca nh ch nu cu l _ H0.out)
 unfold EyH at HH1
 have HQ:=Lib.hid (And.intro hq (And.intro hn hu))
 have HMH:=Lib.hid hmh
 have k4 : (4096≤(nh : Int))=False:=by simp;omega
 have k5 : decide ((4096 : Int)≤(nh : Int))=false:=decide_eq_false (by omega)
 clear hq hn hu hma hmh hmu hatt hin hr hS hm hS0 hok hsz hP
 go_enter Tryz.func25, Tryz.ntmps25
 go_upto_region 2 with (go_at_call 62;(with_reducible refine HH1.out.mono ?_);rintro o w2 (⟨x,r2,A,n,c,e2,rfl,hnx,hmn,hrow,h2⟩ | ⟨e2,rfl,hg⟩);rotate_left;exact ⟨rfl,.inr ⟨by rw [← HP.out];simp only [keptE,keptO,e2],rfl,hg⟩⟩;have E2:=Lib.hid e2;have hal : Below w2.heap.size w2 (w2.alloc (.cells #[.string x.iss,.string x.sch,.int .i64 x.ver,.slice A n c,.string x.a,.string x.e,.string x.v,.int .i64 x.ep,.string x.wit] 47)):=(Below.refl _ _).alloc (Nat.le_refl _) _;have H2:=Lib.hid (h2.below hal);have HB2:=Lib.hid (heap_alloc_new w2 (.cells #[.string x.iss,.string x.sch,.int .i64 x.ver,.slice A n c,.string x.a,.string x.e,.string x.v,.int .i64 x.ep,.string x.wit] 47));have HR2:=Lib.hid ((hrow.keep (fun p hp=>hal.cell hp.2)).mono (S':=fun g=>w.heap.size+2≤g∧g < (w2.alloc (.cells #[.string x.iss,.string x.sch,.int .i64 x.ver,.slice A n c,.string x.a,.string x.e,.string x.v,.int .i64 x.ep,.string x.wit] 47)).heap.size) (fun g hg=>⟨hg.1,Nat.lt_of_lt_of_le hg.2 hal.size⟩));have HNX:=Lib.hid (And.intro hnx hmn);clear h2 hrow hal e2 hnx hmn HH1)
 obtain ⟨W2,hW2⟩ : ∃ W2,w2.alloc (.cells #[.string x.iss,.string x.sch,.int .i64 x.ver,.slice A n c,.string x.a,.string x.e,.string x.v,.int .i64 x.ep,.string x.wit] 47)=W2:=⟨_,rfl⟩
 obtain ⟨b2,hb2⟩ : ∃ b2,w2.heap.size=b2:=⟨_,rfl⟩
 have HL2 : Hid (b2 < W2.heap.size):=Lib.hid (by rw [← hW2,← hb2];simp)
 rw [hW2] at H2 HB2 HR2 ⊢
 rw [hb2] at HB2 ⊢
 clear hW2 hb2
 have HE:=Lib.hid (ey_end w rb S S0 sec qs hs us Aa Ah Au na ca nh ch nu cu r2 _ H2.out)
 go_upto_region 3 with (go_at_call 59;(with_reducible refine HE.out.mono ?_);rintro o w6 (⟨e3,rfl,rfl⟩ | ⟨e3,rfl,hg⟩);rotate_left;exact ⟨rfl,.inr ⟨by rw [← HP.out];simp only [keptE,keptO,E2.out,e3],rfl,hg⟩⟩;have E3:=Lib.hid e3;clear e3)
 obtain ⟨y0,y1,y2,y3⟩:=H2.out.1.cc
 have z0:=cell_of_row _ _ 0 _ _ _ HB2.out
 have z1:=cell_of_row _ _ 1 _ _ _ HB2.out
 have z2:=cell_of_row _ _ 2 _ _ _ HB2.out
 have z3:=cell_of_row _ _ 3 _ _ _ HB2.out
 have z4:=cell_of_row _ _ 4 _ _ _ HB2.out
 have z5:=cell_of_row _ _ 5 _ _ _ HB2.out
 have z6:=cell_of_row _ _ 6 _ _ _ HB2.out
 have z7:=cell_of_row _ _ 7 _ _ _ HB2.out
 have z8:=cell_of_row _ _ 8 _ _ _ HB2.out
 have HKP : Hid (∀ W',Below W2.heap.size W2 W'→EfX w rb S S0 sec qs hs us Aa na ca Ah nh ch Au nu cu r2 W'∧W'.heap[b2]?=some (.cells #[.string x.iss,.string x.sch,.int .i64 x.ver,.slice A n c,.string x.a,.string x.e,.string x.v,.int .i64 x.ep,.string x.wit] 47 (0,0))):=Lib.hid (fun W' hb=>⟨(H2.out.below hb).1,(hb.block _ HL2.out).trans HB2.out⟩)
 have HCP:=Lib.hid (HC.out _ _ H2.out.1)
 go_upto_region 6 with (go_at_call 67;(with_reducible refine HCP.out.mono ?_);rintro o w5 ⟨A1,c1,A2,c2,A3,c3,rfl,how,hb5⟩;have HO5:=Lib.hid how;have HW5:=Lib.hid (heap_alloc_new w5 (.cells #[.string sec,.slice A1 na c1,.slice A2 nh c2,.slice A3 nu c3] 27));have HZ5:=Lib.hid hb5.size;have HB5:=Lib.hid (below2 hb5 ((Below.refl w5.heap.size w5).alloc (Nat.le_refl _) (.cells #[.string sec,.slice A1 na c1,.slice A2 nh c2,.slice A3 nu c3] 27)));clear how hb5)
 have hsz2:=H2.out.1.size
 obtain ⟨L,hL1,hL2⟩:=HO5.out.h
 rw [HQ.out.2.1] at hL1
 obtain ⟨b5,hb5⟩ : ∃ b5,w5.heap.size=b5:=⟨_,rfl⟩
 obtain ⟨W5,hW5⟩ : ∃ W5,w5.alloc (.cells #[.string sec,.slice A1 na c1,.slice A2 nh c2,.slice A3 nu c3] 27)=W5:=⟨_,rfl⟩
 have HL5 : Hid (b5 < W5.heap.size):=Lib.hid (by rw [← hW5,← hb5];simp)
 have HBA:=Lib.hid ((Below.refl w5.heap.size w5).alloc (Nat.le_refl _) (.cells #[.string sec,.slice A1 na c1,.slice A2 nh c2,.slice A3 nu c3] 27))
 rw [hW5] at HBA HW5 HB5 ⊢
 have HE5:=Lib.hid hb5
 rw [hb5] at HW5 HZ5 ⊢
 have HL1:=Lib.hid hL1
 have HL2':=Lib.hid hL2
 have HSZ2:=Lib.hid hsz2
 clear hW5 hb5 hL1 hL2 y0 y1 y2 y3 z0 z1 z2 z3 z4 z5 z6 z7 z8 hsz2
 have q0:=cell_of_row _ _ 0 _ _ _ HW5.out
 have q1:=cell_of_row _ _ 1 _ _ _ HW5.out
 have q2:=cell_of_row _ _ 2 _ _ _ HW5.out
 have q3:=cell_of_row _ _ 3 _ _ _ HW5.out
 have f2:=frozen_of_row _ _ 2 _ _ HW5.out
 have HX5:=Lib.hid (HKP.out W5 HB5.out)
 have z0:=cell_of_row _ _ 0 _ _ _ HX5.out.2
 have z1:=cell_of_row _ _ 1 _ _ _ HX5.out.2
 have z2:=cell_of_row _ _ 2 _ _ _ HX5.out.2
 have z3:=cell_of_row _ _ 3 _ _ _ HX5.out.2
 have z4:=cell_of_row _ _ 4 _ _ _ HX5.out.2
 have z5:=cell_of_row _ _ 5 _ _ _ HX5.out.2
 have z6:=cell_of_row _ _ 6 _ _ _ HX5.out.2
 have z7:=cell_of_row _ _ 7 _ _ _ HX5.out.2
 have z8:=cell_of_row _ _ 8 _ _ _ HX5.out.2
 have HONE : Hid (∀ u ∈ ([.string x.iss,.string x.sch,.int .i64 x.ver,.slice A n c,.string x.a,.string x.e,.string x.v,.int .i64 x.ep,.string x.wit] : List Value),u.oneCell'=true):=Lib.hid (by intro u hu;simp only [List.mem_cons,List.not_mem_nil,or_false] at hu;rcases hu with rfl | rfl | rfl | rfl | rfl | rfl | rfl | rfl | rfl<;>rfl)
 have HRN:=Lib.hid (reads_new W5 [.string x.iss,.string x.sch,.int .i64 x.ver,.slice A n c,.string x.a,.string x.e,.string x.v,.int .i64 x.ep,.string x.wit] 47 9 rfl)
 have hal : Below W5.heap.size W5 (W5.alloc (.cells #[.string x.iss,.string x.sch,.int .i64 x.ver,.slice A n c,.string x.a,.string x.e,.string x.v,.int .i64 x.ep,.string x.wit] 47)):=(Below.refl _ W5).alloc (Nat.le_refl _) _
 have HAL:=Lib.hid hal
 have HBB:=Lib.hid (below2 HBA.out hal)
 have HLA:=Lib.hid (owns_below HL1.out HBB.out)
 clear hal
 obtain ⟨ti,hi,hz,hs1,hb1⟩:=infoE_H
 go_wp2_with (at_builtin;go_loud (refine wpList_append_any _ rfl _ _ 24 rfl W2.heap.size 47 ti (.agg #[.string ByteArray.empty,.string ByteArray.empty,.int .i64 0,.slice none 0 0,.string ByteArray.empty,.string ByteArray.empty,.string ByteArray.empty,.int .i64 0,.string ByteArray.empty]) 9 136 Tryz.underlying24 hi hz hs1 hb1 rfl (by decide) (.slice A2 nh c2) nh L rfl HLA.out _ (some ⟨W5.heap.size,0,none⟩) 1 _ [.string x.iss,.string x.sch,.int .i64 x.ver,.slice A n c,.string x.a,.string x.e,.string x.v,.int .i64 x.ep,.string x.wit] rfl HRN.out HONE.out (by have:=HMH.out;unfold maxLen;omega) (by have:=HMH.out;omega) (by have:=HB5.out.size;simp;omega) ?_))
 intro v' w6 hown hgrow hv
 obtain ⟨A6,c6,rfl⟩:=owns_shape hown
 have hb6 : Below W2.heap.size W2 w6:=(HB5.out.trans (HAL.out.mono (HB5.out.size))).trans (below_grown hgrow (by have:=HB5.out.size;simp;omega) (fun g hg=>(HLA.out.lt g hg).1))
 have HE6:=Lib.hid (HKP.out w6 hb6).1
 have hWM : WalM w6 (fun g=>w.heap.size+2≤g∧g < w6.heap.size∧g≠b5) qs (hs++[x]) us A1 A6 A3:=by
  have how:=HO5.out
  have e5:=HE5.out
  have hz2:=HSZ2.out
  have hz5:=HZ5.out
  have a6:=owns_grown (owns_below how.a HBB.out) hgrow (fun g e1 e2=>how.ah g e1 e2)
  have u6:=owns_grown (owns_below how.u HBB.out) hgrow (fun g e1 e2=>how.hu g e2 e1)
  have hm : ∀ g,(W2.heap.size≤g∧g < w6.heap.size∧g≠b5)→(w.heap.size+2≤g∧g < w6.heap.size∧g≠b5):=fun g hg=>⟨by omega,hg.2⟩
  have hs6 : w5.heap.size≤w6.heap.size:=Nat.le_trans HBB.out.size hgrow.size
  rw [HQ.out.1] at a6
  rw [HQ.out.2.2] at u6
  refine ⟨?_,⟨L++cellsH x A c,?_,RelH.app ((HL2'.out.keep (fun p hp=>?_)).mono (fun g hg=>⟨by omega,by omega,by omega⟩)) (RelH.single ?_)⟩,?_⟩
  · unfold SlA
    rw [HQ.out.1]
    exact (owns_row_ne a6 (fun e=>by have:=(how.a.lt _ e).2;omega)).mono hm
  · rw [List.length_append,HQ.out.2.1]
    unfold cellsH
    rw [HNX.out.1]
    refine (owns_row_ne hown (fun e=>?_)).mono hm
    rcases hv with hv | hv
    · rw [hv] at e
      have:=(HL1.out.lt _ e).2
      omega
    · rw [hv] at e
      injection e with e
      have:=HL5.out
      omega
  · exact (World.cell?_of_block (hgrow.block p.block (Nat.lt_of_lt_of_le hp.2.1 HBB.out.size) (fun e=>hp.2.2.2.1 e.symm))).trans (HBB.out.cell hp.2.1)
  · rw [HNX.out.1]
    exact (HR2.out.keep (fun p hp=>hb6.cell hp.2)).mono (fun g hg=>⟨hg.1,by have:=hg.2;omega,by have:=hg.2;omega⟩)
  · unfold SlU
    rw [HQ.out.2.2]
    exact (owns_row_ne u6 (fun e=>by have:=(how.u.lt _ e).2;omega)).mono hm
 have HWM:=Lib.hid hWM
 have HW6 : Hid (w6.heap[b5]?=some (.cells #[.string sec,.slice A1 na c1,.slice A2 nh c2,.slice A3 nu c3] 27 (0,0))):=Lib.hid (by
  refine (hgrow.block _ (Nat.lt_of_lt_of_le HL5.out HAL.out.size) (fun e=>?_)).trans ((HAL.out.block _ HL5.out).trans HW5.out)
  have:=(HL1.out.lt _ e.symm).2
  have:=HE5.out
  omega)
 clear hWM hb6 hown hgrow hv q0 q1 q2 q3 f2 z0 z1 z2 z3 z4 z5 z6 z7 z8
 have q0:=cell_of_row _ _ 0 _ _ _ HW6.out
 have q1:=cell_of_row _ _ 1 _ _ _ HW6.out
 have q2:=cell_of_row _ _ 2 _ _ _ HW6.out
 have q3:=cell_of_row _ _ 3 _ _ _ HW6.out
 have f2:=frozen_of_row _ _ 2 _ _ HW6.out
 go_upto_region 7 with fail
 have HW7:=Lib.hid (heap_setCell_same w6 b5 2 _ _ (.slice A6 (nh+1) c6) HW6.out)
 have hb7 : Below W2.heap.size w6 (w6.setCell ⟨b5,2,none⟩ (.slice A6 (nh+1) c6)):=(Below.refl _ _).setCell (p:=⟨b5,2,none⟩) HZ5.out _
 have HE7:=Lib.hid (HE6.out.far7 hb7 H2.out.1.size)
 have HWM7 : Hid (WalM (w6.setCell ⟨b5,2,none⟩ (.slice A6 (nh+1) c6)) (fun g=>w.heap.size+2≤g∧g < (w6.setCell ⟨b5,2,none⟩ (.slice A6 (nh+1) c6)).heap.size) qs (hs++[x]) us A1 A6 A3):=Lib.hid ((HWM.out.keep (fun p hp=>World.cell?_setCell_other _ _ _ _ (fun e=>hp.2.2 (by have:=congrArg Addr.block e;first | exact this | exact this.symm)))).mono (fun g hg=>⟨hg.1,by simpa using hg.2.1⟩))
 clear hb7 q0 q1 q2 q3 f2
 obtain ⟨w7,hw7⟩ : ∃ w7,w6.setCell ⟨b5,2,none⟩ (.slice A6 (nh+1) c6)=w7:=⟨_,rfl⟩
 rw [hw7] at HW7 HE7 HWM7 ⊢
 clear hw7
 have q0:=cell_of_row _ _ 0 _ _ _ HW7.out
 have q1:=cell_of_row _ _ 1 _ _ _ HW7.out
 have q2:=cell_of_row _ _ 2 _ _ _ HW7.out
 have q3:=cell_of_row _ _ 3 _ _ _ HW7.out
 obtain ⟨⟨r0,r1,r2',r3⟩,g0,g1,g2,g3⟩:=HE7.out.rc
 go_wp2_with fail
 refine bodyPost_ret (v:=.tuple #[.agg #[.string sec,.slice A1 na c1,.slice A6 (nh+1) c6,.slice A3 nu c3],.int .i64 0]) (by simp [results,Tryz.results25,go_sem,r0,r1,r2',r3]) rfl ?_
 have hf:=EfY.fin2 HE7.out (R:=Rs.of sec qs (hs++[x]) us) (A1:=A1) (A2:=A6) (A3:=A3) (c1:=c1) (c2:=c6) (c3:=c3) HWM7.out (.string sec) (.slice A1 na c1) (.slice A6 (nh+1) c6) (.slice A3 nu c3)
 rw [show P=Rs.of sec qs (hs++[x]) us by rw [← HP.out];simp only [keptE,keptO,E2.out,E3.out,keepW]]
 have eh : (Rs.of sec qs (hs++[x]) us).hs.length=nh+1:=by show (hs++[x]).length=_;rw [List.length_append,HQ.out.2.1];rfl
 have eq : (Rs.of sec qs (hs++[x]) us).qs.length=na:=HQ.out.1
 have eu : (Rs.of sec qs (hs++[x]) us).us.length=nu:=HQ.out.2.2
 rw [eh,eq,eu] at hf
 exact hf
theorem enc_itemF (N : Nat) : ∀ (s : ByteArray) (a e lists rb : Nat) (z : Int) (w : World),e - a≤N→e≤s.size→s.size≤65536→lists≤32→rdO lists (seg s a e)=.err z→RdB s a rb w →
  Calls Tryz.prog 92 #[.pointer (some ⟨rb,0,none⟩),.int .i64 (e : Int),.int .i64 (lists : Int)] w (PanE w rb z):=by
 induction N using Nat.strongRecOn with
 | ind N ih =>
 intro s a e lists rb z w hN he hs hli hrd hb
 have HIH:=Lib.hid ih
 have HB:=Lib.hid hb
 have hlt:=hb.lt
 have HLT:=Lib.hid hlt
 obtain ⟨⟨c0,c1⟩,f1⟩:=hb.cells
 have hcase:=rdO_err he hrd
 clear ih hb hrd
 rcases hcase with ⟨h1,rfl⟩ | ⟨ha,hk2,rfl⟩ | ⟨ha,hk2,rfl,rfl⟩ | ⟨ha,hk2,hnd,hbad,rfl⟩ | ⟨ha,n,a2,hsz,h12,h2e,hn,hcase⟩
 · have d1 : decide ((e : Int)≤(a : Int))=true:=decide_eq_true (by omega)
   have d2 : decide (e≤a)=true:=decide_eq_true (by omega)
   go_enter Tryz.func92, Tryz.ntmps92
   go_upto_region 1 with fail
   go_quiet ((fail))
   go_wp2_with fail
   exact ⟨rfl,rfl,gb_below (below_drewN ((Below.refl _ _).alloc (Nat.le_refl _) _) _)⟩
 · 
   have i1 : (a : Int) < (s.size : Int):=by omega
   have i2 : decide (a < s.size)=true:=decide_eq_true (by omega)
   have d1 : decide ((e : Int)≤(a : Int))=false:=decide_eq_false (by omega)
   have d2 : decide (e≤a)=false:=decide_eq_false (by omega)
   obtain ⟨k,hk⟩ : ∃ k,(s[a]'(by omega)).toNat=k:=⟨_,rfl⟩
   have HK:=Lib.hid hk
   rw [hk] at hk2
   clear hk
   have d3 : decide ((2 : Int) < (k : Int))=true:=decide_eq_true (by omega)
   have d4 : decide (2 < k)=true:=decide_eq_true (by omega)
   go_enter Tryz.func92, Tryz.ntmps92
   go_upto_region 1 with fail
   go_quiet ((fail))
   rw [HK.out]
   go_wp2_with fail
   exact ⟨rfl,rfl,gb_below (below_drewN ((Below.refl _ _).alloc (Nat.le_refl _) _) _)⟩
 · 
   have i1 : (a : Int) < (s.size : Int):=by omega
   have i2 : decide (a < s.size)=true:=decide_eq_true (by omega)
   have d1 : decide ((e : Int)≤(a : Int))=false:=decide_eq_false (by omega)
   have d2 : decide (e≤a)=false:=decide_eq_false (by omega)
   obtain ⟨k,hk⟩ : ∃ k,(s[a]'(by omega)).toNat=k:=⟨_,rfl⟩
   have HK:=Lib.hid hk
   rw [hk] at hk2
   subst hk2
   obtain ⟨k,hk3⟩ : ∃ k,2=k:=⟨_,rfl⟩
   rw [hk3] at HK
   have hk2 : k≤2:=by omega
   have HK3:=Lib.hid hk3
   clear hk hk3
   have d3 : decide ((2 : Int) < (k : Int))=false:=decide_eq_false (by omega)
   have d4 : decide (2 < k)=false:=decide_eq_false (by omega)
   go_enter Tryz.func92, Tryz.ntmps92
   go_upto_region 1 with fail
   go_quiet ((fail))
   have HB1 : Hid (RdB s a rb ((w.alloc (.cells #[.int .i64 0,.string ⟨#[]⟩,.string ⟨#[]⟩,.slice none 0 0] 63)).drewN nq)):=Lib.hid (HB.out.keep (w':=(w.alloc (.cells #[.int .i64 0,.string ⟨#[]⟩,.string ⟨#[]⟩,.slice none 0 0] 63)).drewN nq) (below_drewN ((Below.refl _ _).alloc (Nat.le_refl _) _) _) HLT.out)
   have HR1 : Hid (((w.alloc (.cells #[.int .i64 0,.string ⟨#[]⟩,.string ⟨#[]⟩,.slice none 0 0] 63)).drewN nq).heap[w.heap.size]?=some (.cells #[.int .i64 0,.string ⟨#[]⟩,.string ⟨#[]⟩,.slice none 0 0] 63 (0,0))):=Lib.hid (heap_alloc_new w _)
   have HG1 : Hid (w.grownBy ((w.alloc (.cells #[.int .i64 0,.string ⟨#[]⟩,.string ⟨#[]⟩,.slice none 0 0] 63)).drewN nq) (some rb)):=Lib.hid (gb_below (below_drewN ((Below.refl _ _).alloc (Nat.le_refl _) _) _))
   have hz1 : ((w.alloc (.cells #[.int .i64 0,.string ⟨#[]⟩,.string ⟨#[]⟩,.slice none 0 0] 63)).drewN nq).heap.size=w.heap.size+1:=by show (w.alloc (.cells #[.int .i64 0,.string ⟨#[]⟩,.string ⟨#[]⟩,.slice none 0 0] 63)).heap.size=_;simp
   have HZ1:=Lib.hid hz1
   clear hz1 c0 c1 f1
   obtain ⟨w1,hw1⟩ : ∃ w1,(w.alloc (.cells #[.int .i64 0,.string ⟨#[]⟩,.string ⟨#[]⟩,.slice none 0 0] 63)).drewN nq=w1:=⟨_,rfl⟩
   rw [hw1] at HB1 HR1 HG1 HZ1 ⊢
   rw [HK.out]
   clear hw1
   obtain ⟨⟨c0,c1⟩,f1⟩:=HB1.out.cells
   have HWK : Hid (IntKind.i64.wrap (k : Int)=(k : Int)):=Lib.hid (by simp only [IntKind.wrap,IntKind.bits,IntKind.signed];simp;omega)
   have q0 : ∀ o : Obj,(w1.alloc o).cell? ⟨rb,0,none⟩=some (.string s):=fun o=>((((Below.refl w1.heap.size w1).alloc (Nat.le_refl _) o).cell (p:=⟨rb,0,none⟩) HB1.out.lt).trans c0)
   have q1 : ∀ o : Obj,(w1.alloc o).cell? ⟨rb,1,none⟩=some (.int .i64 (a : Int)):=fun o=>((((Below.refl w1.heap.size w1).alloc (Nat.le_refl _) o).cell (p:=⟨rb,1,none⟩) HB1.out.lt).trans c1)
   go_upto_region 3 with fail
   go_cut [7] (fun v wx=>v=.pointer (some ⟨w.heap.size+1,0,none⟩)∧ItB w rb s a (k : Int) ⟨#[]⟩ ⟨#[]⟩ none 0 0 wx)
   case first =>
    go_region_with (fail)
    all_goals
     go_wp2_with fail
     go_meet
     exact ⟨by rw [HZ1.out],ItB.start HB1.out HR1.out HG1.out HZ1.out HLT.out _ (by rw [HK.out];exact HWK.out)⟩
   case rest =>
    obtain ⟨rfl,hcut⟩:=hcut
    have HC:=Lib.hid hcut
    clear hcut c0 c1 f1 q0 q1 HB1 HR1 HG1 HZ1
    obtain ⟨⟨⟨c0,c1⟩,f1⟩,⟨t0,t1,t2,t3⟩,g0,g1,g2,g3⟩:=HC.out.cells
    obtain rfl : 2=k:=HK3.out
    rw [show ((2 : Nat) : Int)=2 from rfl] at HC t0
    go_wp2_with fail
    exact ⟨rfl,rfl,(HC.out.go ((a : Int)+1) (a+1) (by simp)).gr⟩
 · 
   have i1 : (a : Int) < (s.size : Int):=by omega
   have i2 : decide (a < s.size)=true:=decide_eq_true (by omega)
   have d1 : decide ((e : Int)≤(a : Int))=false:=decide_eq_false (by omega)
   have d2 : decide (e≤a)=false:=decide_eq_false (by omega)
   obtain ⟨k,hk⟩ : ∃ k,(s[a]'(by omega)).toNat=k:=⟨_,rfl⟩
   have HK:=Lib.hid hk
   rw [hk] at hk2 hnd
   have HBAD:=Lib.hid hbad
   have HP:=Lib.hid (And.intro he hs)
   clear hk hbad
   have d3 : decide ((2 : Int) < (k : Int))=false:=decide_eq_false (by omega)
   have d4 : decide (2 < k)=false:=decide_eq_false (by omega)
   go_enter Tryz.func92, Tryz.ntmps92
   go_upto_region 1 with fail
   go_quiet ((fail))
   have HB1 : Hid (RdB s a rb ((w.alloc (.cells #[.int .i64 0,.string ⟨#[]⟩,.string ⟨#[]⟩,.slice none 0 0] 63)).drewN nq)):=Lib.hid (HB.out.keep (w':=(w.alloc (.cells #[.int .i64 0,.string ⟨#[]⟩,.string ⟨#[]⟩,.slice none 0 0] 63)).drewN nq) (below_drewN ((Below.refl _ _).alloc (Nat.le_refl _) _) _) HLT.out)
   have HR1 : Hid (((w.alloc (.cells #[.int .i64 0,.string ⟨#[]⟩,.string ⟨#[]⟩,.slice none 0 0] 63)).drewN nq).heap[w.heap.size]?=some (.cells #[.int .i64 0,.string ⟨#[]⟩,.string ⟨#[]⟩,.slice none 0 0] 63 (0,0))):=Lib.hid (heap_alloc_new w _)
   have HG1 : Hid (w.grownBy ((w.alloc (.cells #[.int .i64 0,.string ⟨#[]⟩,.string ⟨#[]⟩,.slice none 0 0] 63)).drewN nq) (some rb)):=Lib.hid (gb_below (below_drewN ((Below.refl _ _).alloc (Nat.le_refl _) _) _))
   have hz1 : ((w.alloc (.cells #[.int .i64 0,.string ⟨#[]⟩,.string ⟨#[]⟩,.slice none 0 0] 63)).drewN nq).heap.size=w.heap.size+1:=by show (w.alloc (.cells #[.int .i64 0,.string ⟨#[]⟩,.string ⟨#[]⟩,.slice none 0 0] 63)).heap.size=_;simp
   have HZ1:=Lib.hid hz1
   clear hz1 c0 c1 f1
   obtain ⟨w1,hw1⟩ : ∃ w1,(w.alloc (.cells #[.int .i64 0,.string ⟨#[]⟩,.string ⟨#[]⟩,.slice none 0 0] 63)).drewN nq=w1:=⟨_,rfl⟩
   rw [hw1] at HB1 HR1 HG1 HZ1 ⊢
   rw [HK.out]
   clear hw1
   obtain ⟨⟨c0,c1⟩,f1⟩:=HB1.out.cells
   have HWK : Hid (IntKind.i64.wrap (k : Int)=(k : Int)):=Lib.hid (by simp only [IntKind.wrap,IntKind.bits,IntKind.signed];simp;omega)
   have q0 : ∀ o : Obj,(w1.alloc o).cell? ⟨rb,0,none⟩=some (.string s):=fun o=>((((Below.refl w1.heap.size w1).alloc (Nat.le_refl _) o).cell (p:=⟨rb,0,none⟩) HB1.out.lt).trans c0)
   have q1 : ∀ o : Obj,(w1.alloc o).cell? ⟨rb,1,none⟩=some (.int .i64 (a : Int)):=fun o=>((((Below.refl w1.heap.size w1).alloc (Nat.le_refl _) o).cell (p:=⟨rb,1,none⟩) HB1.out.lt).trans c1)
   go_upto_region 3 with fail
   go_cut [7] (fun v wx=>v=.pointer (some ⟨w.heap.size+1,0,none⟩)∧ItB w rb s a (k : Int) ⟨#[]⟩ ⟨#[]⟩ none 0 0 wx)
   case first =>
    go_region_with (fail)
    all_goals
     go_wp2_with fail
     go_meet
     exact ⟨by rw [HZ1.out],ItB.start HB1.out HR1.out HG1.out HZ1.out HLT.out _ (by rw [HK.out];exact HWK.out)⟩
   case rest =>
    obtain ⟨rfl,hcut⟩:=hcut
    have HC:=Lib.hid hcut
    clear hcut c0 c1 f1 q0 q1 HB1 HR1 HG1 HZ1
    obtain ⟨⟨⟨c0,c1⟩,f1⟩,⟨t0,t1,t2,t3⟩,g0,g1,g2,g3⟩:=HC.out.cells
    have e1 : (k : Int)=2→lists≠32:=fun e1 e2=>hnd ⟨by omega,e2⟩
    have HSIZE:=Lib.hid (fun W (hr : RdB s (a+1) rb W)=>enc_sizeF s (a+1) e rb W HP.out.1 HP.out.2 HBAD.out hr)
    by_cases hk22 : k=2
    · subst hk22
      have hl32 : lists≠32:=e1 rfl
      have d7 : ((lists : Int)==32)=false:=by simp;omega
      rw [show ((2 : Nat) : Int)=2 from rfl] at HC t0
      clear e1 hl32 hnd
      go_wp2_with (go_at_call 123;(with_reducible refine (HSIZE.out _ (HC.out.go _ (a+1) (by simp)).rd).mono ?_);rintro o w5 ⟨rfl,hg5⟩)
      exact ⟨rfl,rfl,(HC.out.go ((a : Int)+1) (a+1) (by simp)).gr.trans hg5⟩
    · have d7 : ((k : Int)==2)=false:=by simp;omega
      clear e1 hnd
      go_wp2_with (go_at_call 123;(with_reducible refine (HSIZE.out _ (HC.out.go _ (a+1) (by simp)).rd).mono ?_);rintro o w5 ⟨rfl,hg5⟩)
      exact ⟨rfl,rfl,(HC.out.go ((a : Int)+1) (a+1) (by simp)).gr.trans hg5⟩
 · 
   have i1 : (a : Int) < (s.size : Int):=by omega
   have i2 : decide (a < s.size)=true:=decide_eq_true (by omega)
   have d1 : decide ((e : Int)≤(a : Int))=false:=decide_eq_false (by omega)
   have d2 : decide (e≤a)=false:=decide_eq_false (by omega)
   obtain ⟨k,hk⟩ : ∃ k,(s[a]'(by omega)).toNat=k:=⟨_,rfl⟩
   have HK:=Lib.hid hk
   rw [hk] at hcase
   have HP:=Lib.hid (And.intro he (And.intro hs (And.intro ha (And.intro h12 (And.intro h2e hn)))))
   have HSZ:=Lib.hid hsz
   have hk2 : k≤2:=by rcases hcase with h | h<;>omega
   have HCASE:=Lib.hid hcase
   clear hk hsz hcase
   have d3 : decide ((2 : Int) < (k : Int))=false:=decide_eq_false (by omega)
   have d4 : decide (2 < k)=false:=decide_eq_false (by omega)
   go_enter Tryz.func92, Tryz.ntmps92
   go_upto_region 1 with fail
   go_quiet ((fail))
   have HB1 : Hid (RdB s a rb ((w.alloc (.cells #[.int .i64 0,.string ⟨#[]⟩,.string ⟨#[]⟩,.slice none 0 0] 63)).drewN nq)):=Lib.hid (HB.out.keep (w':=(w.alloc (.cells #[.int .i64 0,.string ⟨#[]⟩,.string ⟨#[]⟩,.slice none 0 0] 63)).drewN nq) (below_drewN ((Below.refl _ _).alloc (Nat.le_refl _) _) _) HLT.out)
   have HR1 : Hid (((w.alloc (.cells #[.int .i64 0,.string ⟨#[]⟩,.string ⟨#[]⟩,.slice none 0 0] 63)).drewN nq).heap[w.heap.size]?=some (.cells #[.int .i64 0,.string ⟨#[]⟩,.string ⟨#[]⟩,.slice none 0 0] 63 (0,0))):=Lib.hid (heap_alloc_new w _)
   have HG1 : Hid (w.grownBy ((w.alloc (.cells #[.int .i64 0,.string ⟨#[]⟩,.string ⟨#[]⟩,.slice none 0 0] 63)).drewN nq) (some rb)):=Lib.hid (gb_below (below_drewN ((Below.refl _ _).alloc (Nat.le_refl _) _) _))
   have hz1 : ((w.alloc (.cells #[.int .i64 0,.string ⟨#[]⟩,.string ⟨#[]⟩,.slice none 0 0] 63)).drewN nq).heap.size=w.heap.size+1:=by show (w.alloc (.cells #[.int .i64 0,.string ⟨#[]⟩,.string ⟨#[]⟩,.slice none 0 0] 63)).heap.size=_;simp
   have HZ1:=Lib.hid hz1
   clear hz1 c0 c1 f1
   obtain ⟨w1,hw1⟩ : ∃ w1,(w.alloc (.cells #[.int .i64 0,.string ⟨#[]⟩,.string ⟨#[]⟩,.slice none 0 0] 63)).drewN nq=w1:=⟨_,rfl⟩
   rw [hw1] at HB1 HR1 HG1 HZ1 ⊢
   rw [HK.out]
   clear hw1
   obtain ⟨⟨c0,c1⟩,f1⟩:=HB1.out.cells
   have HWK : Hid (IntKind.i64.wrap (k : Int)=(k : Int)):=Lib.hid (by simp only [IntKind.wrap,IntKind.bits,IntKind.signed];simp;omega)
   have q0 : ∀ o : Obj,(w1.alloc o).cell? ⟨rb,0,none⟩=some (.string s):=fun o=>((((Below.refl w1.heap.size w1).alloc (Nat.le_refl _) o).cell (p:=⟨rb,0,none⟩) HB1.out.lt).trans c0)
   have q1 : ∀ o : Obj,(w1.alloc o).cell? ⟨rb,1,none⟩=some (.int .i64 (a : Int)):=fun o=>((((Below.refl w1.heap.size w1).alloc (Nat.le_refl _) o).cell (p:=⟨rb,1,none⟩) HB1.out.lt).trans c1)
   go_upto_region 3 with fail
   go_cut [7] (fun v wx=>v=.pointer (some ⟨w.heap.size+1,0,none⟩)∧ItB w rb s a (k : Int) ⟨#[]⟩ ⟨#[]⟩ none 0 0 wx)
   case first =>
    go_region_with (fail)
    all_goals
     go_wp2_with fail
     go_meet
     exact ⟨by rw [HZ1.out],ItB.start HB1.out HR1.out HG1.out HZ1.out HLT.out _ (by rw [HK.out];exact HWK.out)⟩
   case rest =>
    obtain ⟨rfl,hcut⟩:=hcut
    have HC:=Lib.hid hcut
    clear hcut c0 c1 f1 q0 q1 HB1 HR1 HG1 HZ1
    obtain ⟨⟨⟨c0,c1⟩,f1⟩,⟨t0,t1,t2,t3⟩,g0,g1,g2,g3⟩:=HC.out.cells
    have HSIZE:=Lib.hid (fun W (hr : RdB s (a+1) rb W)=>enc_size s (a+1) e n a2 rb W HP.out.1 HP.out.2.1 HSZ.out HP.out.2.2.2.2.1 HP.out.2.2.2.2.2 hr)
    rcases HCASE.out with ⟨rfl,hv,rfl⟩ | ⟨rfl,hl32,hl⟩
    · rw [show ((0 : Nat) : Int)=0 from rfl] at HC t0
      clear hk2 d3 d4
      go_upto_region 8 with (go_at_call 123;(with_reducible refine (HSIZE.out _ (HC.out.go _ (a+1) (by simp)).rd).mono ?_);rintro o w5 ⟨rfl,hr5,hg5⟩;have HC5:=Lib.hid ((HC.out.go ((a : Int)+1) (a+1) (by simp)).read hr5 hg5);clear hr5 hg5)
      clear c0 c1 f1 t0 t1 t2 t3 g0 g1 g2 g3
      obtain ⟨⟨⟨c0,c1⟩,f1⟩,⟨t0,t1,t2,t3⟩,g0,g1,g2,g3⟩:=HC5.out.cells
      obtain ⟨x,hx⟩ : ∃ x : ByteArray,⟨(seg s a2 (a2+n)).toArray⟩=x:=⟨_,rfl⟩
      have HV:=Lib.hid (fun W=>natural_Valid x W)
      rw [← hx,hv,hx] at HV
      obtain ⟨m,hm⟩ : ∃ m,a2+n=m:=⟨_,rfl⟩
      have hme : a2≤m∧m≤s.size:=by have:=HP.out;omega
      have hmi : (a2 : Int)+(n : Int)=(m : Int):=by omega
      have hext : s.extract a2 m=x:=by rw [← hx,seg_extract (by omega) (by omega),hm]
      have m1 : (a2 : Int)≤(m : Int):=by omega
      have m2 : (m : Int)≤(s.size : Int):=by omega
      have m3:=hme.1
      have m4:=hme.2
      clear hx hm hme hv
      go_upto_region 13 with fail
      go_cut [9] (fun v wx=>v=.int .i64 (m : Int)∧ItB w rb s a2 0 x ⟨#[]⟩ none 0 0 wx)
      case first =>
       go_region_with (fail)
       all_goals
        go_wp2_with fail
        go_meet
        exact ⟨rfl,(HC5.out.put1 x).drew⟩
      case rest =>
       obtain ⟨rfl,hcut⟩:=hcut
       have HC6:=Lib.hid hcut
       rename World=>w6
       clear hcut c0 c1 f1 t0 t1 t2 t3 g0 g1 g2 g3
       obtain ⟨⟨⟨c0,c1⟩,f1⟩,⟨t0,t1,t2,t3⟩,g0,g1,g2,g3⟩:=HC6.out.cells
       go_wp2_with (go_at_call 90;(with_reducible refine (HV.out _).mono ?_);rintro o w7 ⟨rfl,rfl⟩)
       exact ⟨rfl,rfl,HC6.out.gr⟩
    · rw [show ((2 : Nat) : Int)=2 from rfl] at HC t0
      have d7 : ((lists : Int)==32)=false:=by simp;omega
      have hli2 : lists+1≤32:=by omega
      clear hk2 d3 d4 hl32
      have HL:=Lib.hid hl
      clear hl
      go_upto_region 8 with (go_at_call 123;(with_reducible refine (HSIZE.out _ (HC.out.go _ (a+1) (by simp)).rd).mono ?_);rintro o w5 ⟨rfl,hr5,hg5⟩;have HC5:=Lib.hid ((HC.out.go ((a : Int)+1) (a+1) (by simp)).read hr5 hg5);clear hr5 hg5)
      clear c0 c1 f1 t0 t1 t2 t3 g0 g1 g2 g3
      obtain ⟨⟨⟨c0,c1⟩,f1⟩,⟨t0,t1,t2,t3⟩,g0,g1,g2,g3⟩:=HC5.out.cells
      obtain ⟨m,hm⟩ : ∃ m,a2+n=m:=⟨_,rfl⟩
      have hmi : (a2 : Int)+(n : Int)=(m : Int):=by omega
      have HM:=Lib.hid (And.intro hm (show a2≤m∧m≤e∧m≤s.size∧m≤65536 by have:=HP.out;omega))
      rw [hm] at HL
      clear hm
      have HLP0 : Hid (LpB w rb s a2 none 0 0 .nil w5):=Lib.hid ⟨HC5.out,OwnK.nil_ _ _⟩
      go_upto_region 10 with fail
      go_loopw [71] (fun _ wr=>∃ (c : Nat) (A2 : Option Addr) (n2 c2 : Nat) (d : Its),a2≤c∧c≤m∧rdA (lists+1) (seg s c m)=.err z∧d.len≤c∧LpB w rb s c A2 n2 c2 d wr) (fun _ wr=>m - atOf wr rb)
      case atStart=>exact ⟨a2,none,0,0,.nil,Nat.le_refl _,HM.out.2.1,HL.out,Nat.zero_le _,HLP0.out⟩
      case round =>
       obtain ⟨c,A2,n2,c2,d,hac,hcm,hrd,hdc,hlp⟩:=hrel
       have HDC:=Lib.hid hdc
       have HLP:=Lib.hid hlp
       have hlt : c < m:=by
        apply Classical.byContradiction
        intro hh
        rw [seg_nil (by omega),rdA_nil] at hrd
        cases hrd
       have hre:=(rdA_err hrd).2
       clear hrd hdc hlp HLP0 c0 c1 f1 t0 t1 t2 t3 g0 g1 g2 g3 HC5
       obtain ⟨⟨⟨c0,c1⟩,f1⟩,⟨t0,t1,t2,t3⟩,g0,g1,g2,g3⟩:=HLP.out.it.cells
       have l1 : (c : Int) < (m : Int):=by omega
       rcases hre with hro | ⟨y5,r5,hro,hra⟩
       · have HIC:=Lib.hid (fun W (hr : RdB s c rb W)=>HIH.out (m - c) (by have:=HM.out;have:=HP.out;omega) s c m (lists+1) rb z W (Nat.le_refl _) HM.out.2.2.2.1 HP.out.2.1 hli2 hro hr)
         rw [show ((lists+1 : Nat) : Int)=IntKind.i64.wrap ((lists : Int)+1) by (simp only [IntKind.wrap,IntKind.bits,IntKind.signed];simp;omega)] at HIC
         clear hro
         go_upto_region 11 with fail
         go_region_law (go_simp;go_at_call 92;(first | (with_reducible refine (HIC.out _ HLP.out.it.rd).mono ?_) | (with_reducible refine (HIC.out _ HLP.out.drew.it.rd).mono ?_));rintro o w5 ⟨rfl,hg5⟩;refine dumm (P:=Tryz.prog) (a:=⟨#[],[]⟩) (w:=wr) (by { first | exact ⟨rfl,rfl,HLP.out.it.gr.trans hg5⟩ | exact ⟨rfl,rfl,HLP.out.drew.it.gr.trans hg5⟩ }) ?_)
         all_goals trivial
       · have HIC:=Lib.hid (fun W (hr : RdB s c rb W)=>enc_item (m - c) s c m (lists+1) rb y5 r5 W (Nat.le_refl _) HM.out.2.2.2.1 HP.out.2.1 hli2 hro hr)
         rw [show ((lists+1 : Nat) : Int)=IntKind.i64.wrap ((lists : Int)+1) by (simp only [IntKind.wrap,IntKind.bits,IntKind.signed];simp;omega)] at HIC
         have hlen5 : r5.length < m - c:=by have:=rd1_len hro;rwa [seg_len HM.out.2.2.2.1] at this
         have HRA:=Lib.hid (And.intro hra hlen5)
         clear hlen5 hro hra
         have HLTC:=Lib.hid hlt
         have HDS : Hid (d.len≤100000):=Lib.hid (by have:=HDC.out;have:=HM.out;omega)
         obtain ⟨yk,yn,yt,yl⟩:=y5
         go_upto_region 11 with fail
         go_region_law (first
          | (go_simp;go_at_call 92;(first | (with_reducible refine (HIC.out _ HLP.out.it.rd).mono ?_) | (with_reducible refine (HIC.out _ HLP.out.drew.it.rd).mono ?_));rintro o w5 ⟨A5,c5,a5,rfl,hr5,ha5,hc5,hsl5,hrb5,hg5⟩;dsimp only at hsl5 hc5;have HC5:=Lib.hid hc5;clear hc5;have hlp5 : LpB w rb s a5 A2 n2 c2 d w5:=(by first | exact HLP.out.read hrb5 hg5 | exact HLP.out.drew.read hrb5 hg5);have HAP:=Lib.hid (HLP.out.fresh (Nat.le_refl _) hsl5 (.cells #[.int .i64 yk,.string yn,.string yt,.slice A5 yl.len c5] 63));have HBK:=Lib.hid (heap_alloc_new w5 (.cells #[.int .i64 yk,.string yn,.string yt,.slice A5 yl.len c5] 63));have HLQ:=Lib.hid (hlp5.alloc (.cells #[.int .i64 yk,.string yn,.string yt,.slice A5 yl.len c5] 63));obtain ⟨-,⟨z0,z1,z2,z3⟩,-⟩:=hlp5.it.cells;obtain ⟨-,⟨zz0,zz1,zz2,zz3⟩,-⟩:=HLQ.out.it.cells;have H5:=Lib.hid (And.intro hr5 ha5);clear hsl5 hlp5 hr5 ha5 hrb5 hg5)
          | (refine step_append_K rfl (.tmp 73) (.tmp 79) rfl (w.heap.size+2) (.slice A2 n2 c2) d (by simp [Act.eval]) HLQ.out.own (yk,yn,yt,yl) A5 c5 w5.heap.size 1 (by simp [Act.eval]) HBK.out HC5.out HAP.out HDS.out HLQ.out.it.size ?_;intro v6 w6 hown6 hg6;obtain ⟨A6,c6,rfl,_,_⟩:=hown6.form;have HPUT:=Lib.hid (HLQ.out.put hown6 hg6);obtain ⟨-,⟨q0,q1,q2,q3⟩,j0,j1,j2,j3⟩:=HPUT.out.1.cells;clear hown6 hg6))
         all_goals
          have ha7 : c < a5:=by
           have h1:=HRA.out.2
           rw [H5.out.1,seg_len HM.out.2.2.2.1] at h1
           omega
          have HA7:=Lib.hid ha7
          clear ha7
          go_roundw
          case rel =>
           refine ⟨_,_,_,_,_,_,_,_,_,_,_,_,_,_,_,_,⟨a5,A6,_,c6,_,by { have:=HA7.out;omega },H5.out.2,by { have:=HRA.out.1;rwa [H5.out.1] at this },?_,by { first | exact HPUT.out.2 | exact HPUT.out.2.drew }⟩,rfl⟩
           rw [Its.len_app]
           have:=HA7.out
           have:=HDC.out
           simp only [Its.one,Its.len]
           omega
          case measure =>
           have h1:=HPUT.out.2.it.rd.at_of
           have h2:=HLP.out.it.rd.at_of
           have h3:=H5.out.2
           have h4:=HA7.out
           first
           | (rw [h1,h2];omega)
           | (show m - atOf ((w6.setCell _ _)) rb < m - atOf wr rb;rw [h1,h2];omega)
end Go.Proofs.YtjhlddlocpkhkaaGreat
