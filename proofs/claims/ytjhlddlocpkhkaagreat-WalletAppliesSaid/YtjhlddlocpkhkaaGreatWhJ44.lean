/- The reference's Apply: asked, used, counted. Printed by genAro.py. The reference's Apply: held, renewed. Printed by genArp.py. The reference's Apply, branch kept: words. The reference's Apply: kept. Printed by genArr.py. The reference's Apply at every entry. Printed by genArs.py. Wallet, plain: what Apply hands back is small. -/
import Derived.Test.YtjhlddlocpkhkaaGreatWhJ43
import Derived.Test.YtjhlddlocpkhkaaGreatWhJ38
namespace Go.Proofs.YtjhlddlocpkhkaaGreat
open Go.RowKit
set_option maxRecDepth 100000
set_option linter.unusedVariables false
set_option maxHeartbeats 16000000
theorem rap_asked (sec : ByteArray) (qs : List Az) (hs : List Hz) (us : List Uz) (Aa Ah Au : Option Addr) (na ca nh ch nu cu : Nat) (S : Nat→Prop) (w : World) (hq : qs.length=na) (hn : hs.length=nh) (hu : us.length=nu) (hma : na < 4096) (hmh : nh < 4096) (hmu : nu < 4096) (ho : WalOk qs hs us) (h : WalM w S qs hs us Aa Ah Au) (hS : ∀ g,S g→g < w.heap.size) (s : ByteArray) (yn yt : ByteArray) (yl : Its) (hval : validW sec qs hs us=true) (hdec : decS s=.ok (2,yn,yt,yl)) (hok : okI yl=true) (hsz : yl.size≤10000) (p1 : Its.One × Its × Bool) (e1 : nxQ 1 yl false=p1)
  (n0 : (p1.1.2.2.1.toList==([115,101,99,114,101,116] : List UInt8))=false)
  (n1 : (p1.1.2.2.1.toList==([97,115,107,101,100] : List UInt8))=true)
   :
  Calls Tryz.prog 8 #[.agg #[.string sec,.slice Aa na ca,.slice Ah nh ch,.slice Au nu cu],.string s] w (GotS S w ((if wrongQ (askedS p1.2).2=true then Rs.err 4 else askW sec qs hs us (askedS p1.2).1))):=by
 have HV:=Lib.hid (fun W (hb : Below w.heap.size w W)=>r56_Valid sec qs hs us Aa Ah Au na ca nh ch nu cu S W hq hn hu (by omega) (by omega) (by omega) ho.att (h.keep (fun q hq=>hb.cell (hS _ hq))) (fun g hg=>Nat.lt_of_lt_of_le (hS g hg) hb.size))
 rw [hval] at HV
 have hD:=fun W=>r08_Decode s W
 rw [hdec] at hD
 have HD:=Lib.hid hD
 unfold DcR at HD
 dsimp only at HD
 have HS:=Lib.hid hS
 have HWM:=Lib.hid (fun W (hb : Below w.heap.size w W)=>h.keep (fun q hq=>hb.cell (hS _ hq)))
 have H0:=Lib.hid (Ra2.start (w:=w) (bc:=#[.string sec,.slice Aa na ca,.slice Ah nh ch,.slice Au nu cu]))
 obtain ⟨x0,x1,x2,x3⟩:=H0.out.wc
 have E1:=Lib.hid e1
 have HRA:=Lib.hid (fun (w4 w5 : World) (A5 : Option Addr) (c5 : Nat) (it : Obj) (h4 : Ra2 w #[.string sec,.slice Aa na ca,.slice Ah nh ch,.slice Au nu cu] w4) (h5 : Ra2 w #[.string sec,.slice Aa na ca,.slice Ah nh ch,.slice Au nu cu] w5) (hc : yl.len≤c5) (hs5 : SlK w5 (fun g=>w4.heap.size≤g∧g < w5.heap.size) A5 yl)=>RaB.start (it:=it) h4 h5 rfl hc hs5 hok hsz)
 have hf1:=fld_1
 have hf2:=fld_2
 have hatt : ∀ x ∈ hs,x.att.length≤100000:=fun x hx=>by have:=ho.att x hx;omega
 obtain ⟨p2,hp2⟩ : ∃ p,askedS p1.2=p:=⟨_,rfl⟩
 obtain ⟨b,hb⟩ : ∃ b,wrongQ p2.2=b:=⟨_,rfl⟩
 rw [hp2,hb]
 have E2:=Lib.hid hp2
 have EB:=Lib.hid hb
 obtain ⟨R,hR⟩ : ∃ R,askW sec qs hs us p2.1=R:=⟨_,rfl⟩
 rw [hR]
 have HAK:=Lib.hid (fun W (hb : Below w.heap.size w W)=>(show _ from hR ▸ ask_gs sec qs hs us Aa Ah Au na ca nh ch nu cu S W hq hn hu hma hmh hmu hatt (h.keep (fun q hq=>hb.cell (hS _ hq))) (fun g hg=>Nat.lt_of_lt_of_le (hS g hg) hb.size) p2.1.1 p2.1.2.1 p2.1.2.2.1 p2.1.2.2.2.1 p2.1.2.2.2.2 : Calls Tryz.prog 34 #[.agg #[.string sec,.slice Aa na ca,.slice Ah nh ch,.slice Au nu cu],.agg #[.string p2.1.1,.string p2.1.2.1,.string p2.1.2.2.1,.string p2.1.2.2.2.1,.string p2.1.2.2.2.2]] W (GotS S W R)))
 clear hR
 clear hq hn hu hma hmh hmu ho h hS hval hdec hD e1 hok hsz hp2 hb hatt
 go_enter Tryz.func8, Tryz.ntmps8
 go_upto_region 4 with (first
  | (go_at_call 28;(with_reducible refine (HV.out _ H0.out.bel).mono ?_);rintro e w4 ⟨rfl,hb4⟩;have H4:=Lib.hid (H0.out.next hb4);clear hb4 x0 x1 x2 x3)
  | (go_at_call 29;(with_reducible refine (HD.out _).mono ?_);rintro e w5 ⟨A5,c5,rfl,h51,h52,hb5⟩;have H5:=Lib.hid (H4.out.next hb5);have HM5:=Lib.hid (And.intro h51 h52);clear h51 h52 hb5))
 have HI:=Lib.hid (heap_alloc_new w5 (.cells #[.int .i64 2,.string yn,.string yt,.slice A5 yl.len c5] 63))
 have HR:=Lib.hid (HRA.out w4 w5 A5 c5 (.cells #[.int .i64 2,.string yn,.string yt,.slice A5 yl.len c5] 63) H4.out H5.out HM5.out.1 HM5.out.2)
 have k0:=cell_of_row _ _ 0 _ _ _ HI.out
 have k3:=cell_of_row _ _ 3 _ _ _ HI.out
 obtain ⟨T,hT⟩ : ∃ T : Nat→Prop,(fun g=>w4.heap.size≤g∧g < w5.heap.size)=T:=⟨_,rfl⟩
 rw [hT] at HR
 clear hT HM5 HRA
 go_upto_region 7 with fail
 obtain ⟨W7,hW7⟩ : ∃ W,(w5.alloc (.cells #[.int .i64 2,.string yn,.string yt,.slice A5 yl.len c5] 63)).alloc (.cells #[.slice A5 yl.len c5,.bool false] 82)=W:=⟨_,rfl⟩
 obtain ⟨rb,hrb⟩ : ∃ b,w5.heap.size+1=b:=⟨_,rfl⟩
 rw [hW7,hrb] at HR
 rw [hW7,hrb]
 clear hW7 hrb HI k0 k3
 have HC1:=Lib.hid (ra_next 1 p1 E1.out HR.out)
 go_upto_region 8 with (go_at_call 30;(with_reducible refine HC1.out.mono ?_);rintro o w8 ⟨A8,c8,rfl,h8⟩;have HR8:=Lib.hid h8;clear h8 HC1)
 have HC2:=Lib.hid (ra_asked p2 E2.out HR8.out)
 go_upto_region 15 with (go_at_call 33;(with_reducible refine HC2.out.mono ?_);rintro o w9 ⟨rfl,h9⟩;have HE:=Lib.hid (h9.next ((Below.refl _ _).alloc (Nat.le_refl _) (.cells #[.string p2.1.1,.string p2.1.2.1,.string p2.1.2.2.1,.string p2.1.2.2.2.1,.string p2.1.2.2.2.2] 40)));have HBX:=Lib.hid (heap_alloc_new w9 (.cells #[.string p2.1.1,.string p2.1.2.1,.string p2.1.2.2.1,.string p2.1.2.2.2.1,.string p2.1.2.2.2.2] 40));clear h9 HC2)
 obtain ⟨W9,hW9⟩ : ∃ W,w9.alloc (.cells #[.string p2.1.1,.string p2.1.2.1,.string p2.1.2.2.1,.string p2.1.2.2.2.1,.string p2.1.2.2.2.2] 40)=W:=⟨_,rfl⟩
 obtain ⟨b9,hb9⟩ : ∃ b,w9.heap.size=b:=⟨_,rfl⟩
 rw [hW9] at HE HBX ⊢
 rw [hb9] at HBX ⊢
 clear hW9 hb9
 have HW:=Lib.hid (ra_wrong b EB.out HE.out)
 cases b with
 | true =>
   rw [if_pos rfl]
   go_wp2_with (go_at_call 31;(with_reducible refine HW.out.mono ?_);rintro o w10 ⟨rfl,rfl⟩;obtain ⟨⟨r0,r1,r2,r3⟩,g0,g1,g2,g3⟩:=HE.out.two.rc;obtain ⟨x0,x1,x2,x3⟩:=HE.out.two.wc;have z0:=cell_of_row _ _ 0 _ _ _ HBX.out;have z1:=cell_of_row _ _ 1 _ _ _ HBX.out;have z2:=cell_of_row _ _ 2 _ _ _ HBX.out;have z3:=cell_of_row _ _ 3 _ _ _ HBX.out;have z4:=cell_of_row _ _ 4 _ _ _ HBX.out)
   refine bodyPost_ret (v:=.tuple #[.agg #[.string ⟨#[]⟩,.slice none 0 0,.slice none 0 0,.slice none 0 0],.int .i64 4]) (by simp [results,Tryz.results8,go_sem,r0,r1,r2,r3]) rfl ?_
   exact gotS_zero (res4 HE.out.two.bel _ _ _ _)
 | false =>
   rw [if_neg (by decide)]
   go_wp2_with (first
    | (go_at_call 31;(with_reducible refine HW.out.mono ?_);rintro o w10 ⟨rfl,rfl⟩;obtain ⟨⟨r0,r1,r2,r3⟩,g0,g1,g2,g3⟩:=HE.out.two.rc;obtain ⟨x0,x1,x2,x3⟩:=HE.out.two.wc;have z0:=cell_of_row _ _ 0 _ _ _ HBX.out;have z1:=cell_of_row _ _ 1 _ _ _ HBX.out;have z2:=cell_of_row _ _ 2 _ _ _ HBX.out;have z3:=cell_of_row _ _ 3 _ _ _ HBX.out;have z4:=cell_of_row _ _ 4 _ _ _ HBX.out)
    | (go_at_call 34;(with_reducible refine (HAK.out _ HE.out.two.bel).mono ?_);rintro o w11 ⟨A1,c1,A2,c2,A3,c3,rfl,hm,hb11⟩;have HM:=Lib.hid (And.intro hm hb11);have H11:=Lib.hid (HE.out.two.next hb11);obtain ⟨⟨r0,r1,r2,r3⟩,g0,g1,g2,g3⟩:=H11.out.rc;clear hm hb11))
   refine bodyPost_ret (v:=.tuple #[.agg #[.string R.sec,.slice A1 R.qs.length c1,.slice A2 R.hs.length c2,.slice A3 R.us.length c3],.int .i64 R.z]) (by simp [results,Tryz.results8,go_sem,r0,r1,r2,r3]) rfl ?_
   exact gotS_fin HS.out (S1:=S) (fun g hg=>.inl hg) HE.out.two.size HE.out.two.bel HM.out.1 HM.out.2 _ _ _ _
theorem nbQ_hi (l : Its) (bad : Bool) (hok : okI l=true) : -9223372036854775808≤(nbQ l bad).1∧(nbQ l bad).1≤9223372036854775807:=by
 unfold nbQ
 cases hx : rLst l with
 | none=>dsimp only;omega
 | some p =>
   obtain ⟨b,r⟩:=p
   obtain ⟨_,_,h3⟩:=rLst_some hok hx
   dsimp only
   cases hn : numO b with
   | none=>show -9223372036854775808≤(0 : Int)∧(0 : Int)≤9223372036854775807;omega
   | some z=>exact (numO_some h3 hn).2
theorem usedS_hi (s : Its × Bool) (hok : okI s.1=true) (hsz : s.1.size≤10000) : -9223372036854775808≤(usedS s).1.2.2∧(usedS s).1.2.2≤9223372036854775807:=by
 unfold usedS
 exact nbQ_hi _ _ (nbQ_ok _ _ _ (nxQ_ok 1 s.1 s.2 _ hok hsz).1.1 (nxQ_ok 1 s.1 s.2 _ hok hsz).1.2).1
theorem nx1_ok (yl : Its) (hok : okI yl=true) (hsz : yl.size≤10000) : okI (nxQ 1 yl false).2.1=true∧(nxQ 1 yl false).2.1.size≤10000:=(nxQ_ok 1 yl false _ hok hsz).1
theorem rap_used (sec : ByteArray) (qs : List Az) (hs : List Hz) (us : List Uz) (Aa Ah Au : Option Addr) (na ca nh ch nu cu : Nat) (S : Nat→Prop) (w : World) (hq : qs.length=na) (hn : hs.length=nh) (hu : us.length=nu) (hma : na < 4096) (hmh : nh < 4096) (hmu : nu < 4096) (ho : WalOk qs hs us) (h : WalM w S qs hs us Aa Ah Au) (hS : ∀ g,S g→g < w.heap.size) (s : ByteArray) (yn yt : ByteArray) (yl : Its) (hval : validW sec qs hs us=true) (hdec : decS s=.ok (2,yn,yt,yl)) (hok : okI yl=true) (hsz : yl.size≤10000) (p1 : Its.One × Its × Bool) (e1 : nxQ 1 yl false=p1)
  (n0 : (p1.1.2.2.1.toList==([115,101,99,114,101,116] : List UInt8))=false)
  (n1 : (p1.1.2.2.1.toList==([97,115,107,101,100] : List UInt8))=false)
  (n2 : (p1.1.2.2.1.toList==([104,101,108,100] : List UInt8))=false)
  (n3 : (p1.1.2.2.1.toList==([114,101,110,101,119,101,100] : List UInt8))=false)
  (n4 : (p1.1.2.2.1.toList==([117,115,101,100] : List UInt8))=true)
   :
  Calls Tryz.prog 8 #[.agg #[.string sec,.slice Aa na ca,.slice Ah nh ch,.slice Au nu cu],.string s] w (GotS S w ((if wrongQ (usedS p1.2).2=true then Rs.err 4 else spendW sec qs hs us (usedS p1.2).1))):=by
 have HV:=Lib.hid (fun W (hb : Below w.heap.size w W)=>r56_Valid sec qs hs us Aa Ah Au na ca nh ch nu cu S W hq hn hu (by omega) (by omega) (by omega) ho.att (h.keep (fun q hq=>hb.cell (hS _ hq))) (fun g hg=>Nat.lt_of_lt_of_le (hS g hg) hb.size))
 rw [hval] at HV
 have hD:=fun W=>r08_Decode s W
 rw [hdec] at hD
 have HD:=Lib.hid hD
 unfold DcR at HD
 dsimp only at HD
 have HS:=Lib.hid hS
 have HWM:=Lib.hid (fun W (hb : Below w.heap.size w W)=>h.keep (fun q hq=>hb.cell (hS _ hq)))
 have H0:=Lib.hid (Ra2.start (w:=w) (bc:=#[.string sec,.slice Aa na ca,.slice Ah nh ch,.slice Au nu cu]))
 obtain ⟨x0,x1,x2,x3⟩:=H0.out.wc
 have E1:=Lib.hid e1
 have HRA:=Lib.hid (fun (w4 w5 : World) (A5 : Option Addr) (c5 : Nat) (it : Obj) (h4 : Ra2 w #[.string sec,.slice Aa na ca,.slice Ah nh ch,.slice Au nu cu] w4) (h5 : Ra2 w #[.string sec,.slice Aa na ca,.slice Ah nh ch,.slice Au nu cu] w5) (hc : yl.len≤c5) (hs5 : SlK w5 (fun g=>w4.heap.size≤g∧g < w5.heap.size) A5 yl)=>RaB.start (it:=it) h4 h5 rfl hc hs5 hok hsz)
 have hf1:=fld_1
 have hf2:=fld_2
 have hatt : ∀ x ∈ hs,x.att.length≤100000:=fun x hx=>by have:=ho.att x hx;omega
 obtain ⟨p2,hp2⟩ : ∃ p,usedS p1.2=p:=⟨_,rfl⟩
 obtain ⟨b,hb⟩ : ∃ b,wrongQ p2.2=b:=⟨_,rfl⟩
 rw [hp2,hb]
 have E2:=Lib.hid hp2
 have EB:=Lib.hid hb
 have HHI:=Lib.hid (show -9223372036854775808≤p2.1.2.2∧p2.1.2.2≤9223372036854775807 by rw [← hp2,← e1];have:=nx1_ok yl hok hsz;exact usedS_hi _ this.1 this.2)
 obtain ⟨R,hR⟩ : ∃ R,spendW sec qs hs us p2.1=R:=⟨_,rfl⟩
 rw [hR]
 have HRR:=Lib.hid hR
 obtain ⟨R2,hR2⟩ : ∃ R,useW sec qs hs us p2.1=R:=⟨_,rfl⟩
 have HR2:=Lib.hid hR2
 obtain ⟨cn,hcn⟩ : ∃ c,cntU (isU p2.1.1 p2.1.2.1) us=c:=⟨_,rfl⟩
 obtain ⟨ix,hix⟩ : ∃ c,idxU (isU p2.1.1 p2.1.2.1) us 0=c:=⟨_,rfl⟩
 have HCN:=Lib.hid hcn
 have HIX:=Lib.hid hix
 have HUS:=Lib.hid (fun W (hb : Below w.heap.size w W)=>(show _ from hR2 ▸ use_gs sec qs hs us Aa Ah Au na ca nh ch nu cu S W hq hn hu hma hmh hmu hatt (h.keep (fun q hq=>hb.cell (hS _ hq))) (fun g hg=>Nat.lt_of_lt_of_le (hS g hg) hb.size) p2.1.1 p2.1.2.1 p2.1.2.2 : Calls Tryz.prog 41 #[.agg #[.string sec,.slice Aa na ca,.slice Ah nh ch,.slice Au nu cu],.agg #[.string p2.1.1,.int .i64 p2.1.2.1,.int .i64 p2.1.2.2]] W (GotS S W R2)))
 have HCO:=Lib.hid (fun W (hb : Below w.heap.size w W)=>r56_countOf us Au nu cu S sec Aa Ah na ca nh ch p2.1.1 p2.1.2.1 W hu (by omega) (by have:=(h.keep (fun q hq=>hb.cell (hS _ hq))).u;exact this) (fun g hg=>Nat.lt_of_lt_of_le (hS g hg) hb.size))
 rw [hcn,hix] at HCO
 clear hR hR2 hcn hix
 clear hq hn hu hma hmh hmu ho h hS hval hdec hD e1 hok hsz hp2 hb hatt
 go_enter Tryz.func8, Tryz.ntmps8
 go_upto_region 4 with (first
  | (go_at_call 28;(with_reducible refine (HV.out _ H0.out.bel).mono ?_);rintro e w4 ⟨rfl,hb4⟩;have H4:=Lib.hid (H0.out.next hb4);clear hb4 x0 x1 x2 x3)
  | (go_at_call 29;(with_reducible refine (HD.out _).mono ?_);rintro e w5 ⟨A5,c5,rfl,h51,h52,hb5⟩;have H5:=Lib.hid (H4.out.next hb5);have HM5:=Lib.hid (And.intro h51 h52);clear h51 h52 hb5))
 have HI:=Lib.hid (heap_alloc_new w5 (.cells #[.int .i64 2,.string yn,.string yt,.slice A5 yl.len c5] 63))
 have HR:=Lib.hid (HRA.out w4 w5 A5 c5 (.cells #[.int .i64 2,.string yn,.string yt,.slice A5 yl.len c5] 63) H4.out H5.out HM5.out.1 HM5.out.2)
 have k0:=cell_of_row _ _ 0 _ _ _ HI.out
 have k3:=cell_of_row _ _ 3 _ _ _ HI.out
 obtain ⟨T,hT⟩ : ∃ T : Nat→Prop,(fun g=>w4.heap.size≤g∧g < w5.heap.size)=T:=⟨_,rfl⟩
 rw [hT] at HR
 clear hT HM5 HRA
 go_upto_region 7 with fail
 obtain ⟨W7,hW7⟩ : ∃ W,(w5.alloc (.cells #[.int .i64 2,.string yn,.string yt,.slice A5 yl.len c5] 63)).alloc (.cells #[.slice A5 yl.len c5,.bool false] 82)=W:=⟨_,rfl⟩
 obtain ⟨rb,hrb⟩ : ∃ b,w5.heap.size+1=b:=⟨_,rfl⟩
 rw [hW7,hrb] at HR
 rw [hW7,hrb]
 clear hW7 hrb HI k0 k3
 have HC1:=Lib.hid (ra_next 1 p1 E1.out HR.out)
 go_upto_region 8 with (go_at_call 30;(with_reducible refine HC1.out.mono ?_);rintro o w8 ⟨A8,c8,rfl,h8⟩;have HR8:=Lib.hid h8;clear h8 HC1)
 have HC2:=Lib.hid (ra_used p2 E2.out HR8.out)
 go_upto_region 32 with (go_at_call 39;(with_reducible refine HC2.out.mono ?_);rintro o w9 ⟨rfl,h9⟩;have HE:=Lib.hid (h9.next ((Below.refl _ _).alloc (Nat.le_refl _) (.cells #[.string p2.1.1,.int .i64 p2.1.2.1,.int .i64 p2.1.2.2] 57)));have HBX:=Lib.hid (heap_alloc_new w9 (.cells #[.string p2.1.1,.int .i64 p2.1.2.1,.int .i64 p2.1.2.2] 57));clear h9 HC2)
 obtain ⟨W9,hW9⟩ : ∃ W,w9.alloc (.cells #[.string p2.1.1,.int .i64 p2.1.2.1,.int .i64 p2.1.2.2] 57)=W:=⟨_,rfl⟩
 obtain ⟨b9,hb9⟩ : ∃ b,w9.heap.size=b:=⟨_,rfl⟩
 rw [hW9] at HE HBX ⊢
 rw [hb9] at HBX ⊢
 clear hW9 hb9
 have HW:=Lib.hid (ra_wrong b EB.out HE.out)
 cases b with
 | true =>
   rw [if_pos rfl]
   go_wp2_with (go_at_call 31;(with_reducible refine HW.out.mono ?_);rintro o w10 ⟨rfl,rfl⟩;obtain ⟨⟨r0,r1,r2,r3⟩,g0,g1,g2,g3⟩:=HE.out.two.rc;obtain ⟨x0,x1,x2,x3⟩:=HE.out.two.wc;have z0:=cell_of_row _ _ 0 _ _ _ HBX.out;have z1:=cell_of_row _ _ 1 _ _ _ HBX.out;have z2:=cell_of_row _ _ 2 _ _ _ HBX.out)
   refine bodyPost_ret (v:=.tuple #[.agg #[.string ⟨#[]⟩,.slice none 0 0,.slice none 0 0,.slice none 0 0],.int .i64 4]) (by simp [results,Tryz.results8,go_sem,r0,r1,r2,r3]) rfl ?_
   exact gotS_zero (res4 HE.out.two.bel _ _ _ _)
 | false =>
   rw [if_neg (by decide)]
   have HBL:=Lib.hid (Array.getElem?_eq_some_iff.1 HBX.out).1
   have hhi:=HHI.out
   by_cases d1 : p2.1.2.2 < 1
   · have k1 : decide (p2.1.2.2 < 1)=true:=decide_eq_true d1
     have e : R=Rs.err 26:=by rw [← HRR.out];unfold spendW;rw [if_pos (.inl d1)]
     rw [e]
     clear d1
     go_wp2_with (first
      | (go_at_call 31;(with_reducible refine HW.out.mono ?_);rintro o w10 ⟨rfl,rfl⟩;obtain ⟨⟨r0,r1,r2,r3⟩,g0,g1,g2,g3⟩:=HE.out.two.rc;obtain ⟨x0,x1,x2,x3⟩:=HE.out.two.wc;have z0:=cell_of_row _ _ 0 _ _ _ HBX.out;have z1:=cell_of_row _ _ 1 _ _ _ HBX.out;have z2:=cell_of_row _ _ 2 _ _ _ HBX.out)
      | (go_at_call 40;(with_reducible refine (HCO.out _ HE.out.two.bel).mono ?_);rintro o w11 ⟨rfl,hb11⟩;have HE1:=Lib.hid (HE.out.next hb11);have HBX1:=Lib.hid ((hb11.block _ HBL.out).trans HBX.out);obtain ⟨⟨r0,r1,r2,r3⟩,g0,g1,g2,g3⟩:=HE1.out.two.rc;obtain ⟨x0,x1,x2,x3⟩:=HE1.out.two.wc;have z0:=cell_of_row _ _ 0 _ _ _ HBX1.out;have z1:=cell_of_row _ _ 1 _ _ _ HBX1.out;have z2:=cell_of_row _ _ 2 _ _ _ HBX1.out;clear hb11))
     refine bodyPost_ret (v:=.tuple #[.agg #[.string ⟨#[]⟩,.slice none 0 0,.slice none 0 0,.slice none 0 0],.int .i64 26]) (by simp [results,Tryz.results8,go_sem,r0,r1,r2,r3]) rfl ?_
     exact gotS_zero (res4 HE1.out.two.bel _ _ _ _)
   · have k1 : decide (p2.1.2.2 < 1)=false:=decide_eq_false d1
     by_cases d2 : p2.1.2.2 - 1=cn
     · have k2 : (p2.1.2.2 - 1 != cn)=false:=by simp [d2]
       have e : R=R2:=by rw [← HRR.out,← HR2.out];unfold spendW;rw [HCN.out,if_neg (by intro hh;rcases hh with hh | hh;exact d1 hh;exact hh d2)]
       have hge : 1≤p2.1.2.2:=by omega
       clear d2
       go_wp2_with (first
        | (go_at_call 31;(with_reducible refine HW.out.mono ?_);rintro o w10 ⟨rfl,rfl⟩;obtain ⟨⟨r0,r1,r2,r3⟩,g0,g1,g2,g3⟩:=HE.out.two.rc;obtain ⟨x0,x1,x2,x3⟩:=HE.out.two.wc;have z0:=cell_of_row _ _ 0 _ _ _ HBX.out;have z1:=cell_of_row _ _ 1 _ _ _ HBX.out;have z2:=cell_of_row _ _ 2 _ _ _ HBX.out)
        | (go_at_call 40;(with_reducible refine (HCO.out _ HE.out.two.bel).mono ?_);rintro o w11 ⟨rfl,hb11⟩;have HE1:=Lib.hid (HE.out.next hb11);have HBX1:=Lib.hid ((hb11.block _ HBL.out).trans HBX.out);obtain ⟨⟨r0,r1,r2,r3⟩,g0,g1,g2,g3⟩:=HE1.out.two.rc;obtain ⟨x0,x1,x2,x3⟩:=HE1.out.two.wc;have z0:=cell_of_row _ _ 0 _ _ _ HBX1.out;have z1:=cell_of_row _ _ 1 _ _ _ HBX1.out;have z2:=cell_of_row _ _ 2 _ _ _ HBX1.out;clear hb11)
        | (go_at_call 41;(with_reducible refine (HUS.out _ HE1.out.two.bel).mono ?_);rintro o w12 ⟨A1,c1,A2,c2,A3,c3,rfl,hm,hb12⟩;have HM:=Lib.hid (And.intro hm hb12);have H12:=Lib.hid (HE1.out.two.next hb12);obtain ⟨⟨r0,r1,r2,r3⟩,g0,g1,g2,g3⟩:=H12.out.rc;clear hm hb12))
       refine bodyPost_ret (v:=.tuple #[.agg #[.string R2.sec,.slice A1 R2.qs.length c1,.slice A2 R2.hs.length c2,.slice A3 R2.us.length c3],.int .i64 R2.z]) (by simp [results,Tryz.results8,go_sem,r0,r1,r2,r3]) rfl ?_
       exact gotS_fin HS.out (S1:=S) (fun g hg=>.inl hg) HE1.out.two.size HE1.out.two.bel HM.out.1 HM.out.2 _ _ _ _
     · have k2 : (p2.1.2.2 - 1 != cn)=true:=by simp [d2]
       have e : R=Rs.err 26:=by rw [← HRR.out];unfold spendW;rw [HCN.out,if_pos (.inr d2)]
       rw [e]
       have hge : 1≤p2.1.2.2:=by omega
       clear d2
       go_wp2_with (first
        | (go_at_call 31;(with_reducible refine HW.out.mono ?_);rintro o w10 ⟨rfl,rfl⟩;obtain ⟨⟨r0,r1,r2,r3⟩,g0,g1,g2,g3⟩:=HE.out.two.rc;obtain ⟨x0,x1,x2,x3⟩:=HE.out.two.wc;have z0:=cell_of_row _ _ 0 _ _ _ HBX.out;have z1:=cell_of_row _ _ 1 _ _ _ HBX.out;have z2:=cell_of_row _ _ 2 _ _ _ HBX.out)
        | (go_at_call 40;(with_reducible refine (HCO.out _ HE.out.two.bel).mono ?_);rintro o w11 ⟨rfl,hb11⟩;have HE1:=Lib.hid (HE.out.next hb11);have HBX1:=Lib.hid ((hb11.block _ HBL.out).trans HBX.out);obtain ⟨⟨r0,r1,r2,r3⟩,g0,g1,g2,g3⟩:=HE1.out.two.rc;obtain ⟨x0,x1,x2,x3⟩:=HE1.out.two.wc;have z0:=cell_of_row _ _ 0 _ _ _ HBX1.out;have z1:=cell_of_row _ _ 1 _ _ _ HBX1.out;have z2:=cell_of_row _ _ 2 _ _ _ HBX1.out;clear hb11))
       refine bodyPost_ret (v:=.tuple #[.agg #[.string ⟨#[]⟩,.slice none 0 0,.slice none 0 0,.slice none 0 0],.int .i64 26]) (by simp [results,Tryz.results8,go_sem,r0,r1,r2,r3]) rfl ?_
       exact gotS_zero (res4 HE1.out.two.bel _ _ _ _)
theorem rap_counted (sec : ByteArray) (qs : List Az) (hs : List Hz) (us : List Uz) (Aa Ah Au : Option Addr) (na ca nh ch nu cu : Nat) (S : Nat→Prop) (w : World) (hq : qs.length=na) (hn : hs.length=nh) (hu : us.length=nu) (hma : na < 4096) (hmh : nh < 4096) (hmu : nu < 4096) (ho : WalOk qs hs us) (h : WalM w S qs hs us Aa Ah Au) (hS : ∀ g,S g→g < w.heap.size) (s : ByteArray) (yn yt : ByteArray) (yl : Its) (hval : validW sec qs hs us=true) (hdec : decS s=.ok (2,yn,yt,yl)) (hok : okI yl=true) (hsz : yl.size≤10000) (p1 : Its.One × Its × Bool) (e1 : nxQ 1 yl false=p1)
  (n0 : (p1.1.2.2.1.toList==([115,101,99,114,101,116] : List UInt8))=false)
  (n1 : (p1.1.2.2.1.toList==([97,115,107,101,100] : List UInt8))=false)
  (n2 : (p1.1.2.2.1.toList==([104,101,108,100] : List UInt8))=false)
  (n3 : (p1.1.2.2.1.toList==([114,101,110,101,119,101,100] : List UInt8))=false)
  (n4 : (p1.1.2.2.1.toList==([117,115,101,100] : List UInt8))=false)
  (n5 : (p1.1.2.2.1.toList==([107,101,112,116] : List UInt8))=false)
  (n6 : (p1.1.2.2.1.toList==([99,111,117,110,116,101,100] : List UInt8))=true)
   :
  Calls Tryz.prog 8 #[.agg #[.string sec,.slice Aa na ca,.slice Ah nh ch,.slice Au nu cu],.string s] w (GotS S w ((if wrongQ (usedS p1.2).2=true then Rs.err 4 else countW sec qs hs us (usedS p1.2).1))):=by
 have HV:=Lib.hid (fun W (hb : Below w.heap.size w W)=>r56_Valid sec qs hs us Aa Ah Au na ca nh ch nu cu S W hq hn hu (by omega) (by omega) (by omega) ho.att (h.keep (fun q hq=>hb.cell (hS _ hq))) (fun g hg=>Nat.lt_of_lt_of_le (hS g hg) hb.size))
 rw [hval] at HV
 have hD:=fun W=>r08_Decode s W
 rw [hdec] at hD
 have HD:=Lib.hid hD
 unfold DcR at HD
 dsimp only at HD
 have HS:=Lib.hid hS
 have HWM:=Lib.hid (fun W (hb : Below w.heap.size w W)=>h.keep (fun q hq=>hb.cell (hS _ hq)))
 have H0:=Lib.hid (Ra2.start (w:=w) (bc:=#[.string sec,.slice Aa na ca,.slice Ah nh ch,.slice Au nu cu]))
 obtain ⟨x0,x1,x2,x3⟩:=H0.out.wc
 have E1:=Lib.hid e1
 have HRA:=Lib.hid (fun (w4 w5 : World) (A5 : Option Addr) (c5 : Nat) (it : Obj) (h4 : Ra2 w #[.string sec,.slice Aa na ca,.slice Ah nh ch,.slice Au nu cu] w4) (h5 : Ra2 w #[.string sec,.slice Aa na ca,.slice Ah nh ch,.slice Au nu cu] w5) (hc : yl.len≤c5) (hs5 : SlK w5 (fun g=>w4.heap.size≤g∧g < w5.heap.size) A5 yl)=>RaB.start (it:=it) h4 h5 rfl hc hs5 hok hsz)
 have hf1:=fld_1
 have hf2:=fld_2
 have hatt : ∀ x ∈ hs,x.att.length≤100000:=fun x hx=>by have:=ho.att x hx;omega
 obtain ⟨p2,hp2⟩ : ∃ p,usedS p1.2=p:=⟨_,rfl⟩
 obtain ⟨b,hb⟩ : ∃ b,wrongQ p2.2=b:=⟨_,rfl⟩
 rw [hp2,hb]
 have E2:=Lib.hid hp2
 have EB:=Lib.hid hb
 have HHI:=Lib.hid (show -9223372036854775808≤p2.1.2.2∧p2.1.2.2≤9223372036854775807 by rw [← hp2,← e1];have:=nx1_ok yl hok hsz;exact usedS_hi _ this.1 this.2)
 obtain ⟨R,hR⟩ : ∃ R,countW sec qs hs us p2.1=R:=⟨_,rfl⟩
 rw [hR]
 have HRR:=Lib.hid hR
 obtain ⟨R2,hR2⟩ : ∃ R,useW sec qs hs us p2.1=R:=⟨_,rfl⟩
 have HR2:=Lib.hid hR2
 obtain ⟨cn,hcn⟩ : ∃ c,cntU (isU p2.1.1 p2.1.2.1) us=c:=⟨_,rfl⟩
 obtain ⟨ix,hix⟩ : ∃ c,idxU (isU p2.1.1 p2.1.2.1) us 0=c:=⟨_,rfl⟩
 have HCN:=Lib.hid hcn
 have HIX:=Lib.hid hix
 have HUS:=Lib.hid (fun W (hb : Below w.heap.size w W)=>(show _ from hR2 ▸ use_gs sec qs hs us Aa Ah Au na ca nh ch nu cu S W hq hn hu hma hmh hmu hatt (h.keep (fun q hq=>hb.cell (hS _ hq))) (fun g hg=>Nat.lt_of_lt_of_le (hS g hg) hb.size) p2.1.1 p2.1.2.1 p2.1.2.2 : Calls Tryz.prog 41 #[.agg #[.string sec,.slice Aa na ca,.slice Ah nh ch,.slice Au nu cu],.agg #[.string p2.1.1,.int .i64 p2.1.2.1,.int .i64 p2.1.2.2]] W (GotS S W R2)))
 have HCO:=Lib.hid (fun W (hb : Below w.heap.size w W)=>r56_countOf us Au nu cu S sec Aa Ah na ca nh ch p2.1.1 p2.1.2.1 W hu (by omega) (by have:=(h.keep (fun q hq=>hb.cell (hS _ hq))).u;exact this) (fun g hg=>Nat.lt_of_lt_of_le (hS g hg) hb.size))
 rw [hcn,hix] at HCO
 clear hR hR2 hcn hix
 clear hq hn hu hma hmh hmu ho h hS hval hdec hD e1 hok hsz hp2 hb hatt
 go_enter Tryz.func8, Tryz.ntmps8
 go_upto_region 4 with (first
  | (go_at_call 28;(with_reducible refine (HV.out _ H0.out.bel).mono ?_);rintro e w4 ⟨rfl,hb4⟩;have H4:=Lib.hid (H0.out.next hb4);clear hb4 x0 x1 x2 x3)
  | (go_at_call 29;(with_reducible refine (HD.out _).mono ?_);rintro e w5 ⟨A5,c5,rfl,h51,h52,hb5⟩;have H5:=Lib.hid (H4.out.next hb5);have HM5:=Lib.hid (And.intro h51 h52);clear h51 h52 hb5))
 have HI:=Lib.hid (heap_alloc_new w5 (.cells #[.int .i64 2,.string yn,.string yt,.slice A5 yl.len c5] 63))
 have HR:=Lib.hid (HRA.out w4 w5 A5 c5 (.cells #[.int .i64 2,.string yn,.string yt,.slice A5 yl.len c5] 63) H4.out H5.out HM5.out.1 HM5.out.2)
 have k0:=cell_of_row _ _ 0 _ _ _ HI.out
 have k3:=cell_of_row _ _ 3 _ _ _ HI.out
 obtain ⟨T,hT⟩ : ∃ T : Nat→Prop,(fun g=>w4.heap.size≤g∧g < w5.heap.size)=T:=⟨_,rfl⟩
 rw [hT] at HR
 clear hT HM5 HRA
 go_upto_region 7 with fail
 obtain ⟨W7,hW7⟩ : ∃ W,(w5.alloc (.cells #[.int .i64 2,.string yn,.string yt,.slice A5 yl.len c5] 63)).alloc (.cells #[.slice A5 yl.len c5,.bool false] 82)=W:=⟨_,rfl⟩
 obtain ⟨rb,hrb⟩ : ∃ b,w5.heap.size+1=b:=⟨_,rfl⟩
 rw [hW7,hrb] at HR
 rw [hW7,hrb]
 clear hW7 hrb HI k0 k3
 have HC1:=Lib.hid (ra_next 1 p1 E1.out HR.out)
 go_upto_region 8 with (go_at_call 30;(with_reducible refine HC1.out.mono ?_);rintro o w8 ⟨A8,c8,rfl,h8⟩;have HR8:=Lib.hid h8;clear h8 HC1)
 have HC2:=Lib.hid (ra_used p2 E2.out HR8.out)
 go_upto_region 49 with (go_at_call 39;(with_reducible refine HC2.out.mono ?_);rintro o w9 ⟨rfl,h9⟩;have HE:=Lib.hid (h9.next ((Below.refl _ _).alloc (Nat.le_refl _) (.cells #[.string p2.1.1,.int .i64 p2.1.2.1,.int .i64 p2.1.2.2] 57)));have HBX:=Lib.hid (heap_alloc_new w9 (.cells #[.string p2.1.1,.int .i64 p2.1.2.1,.int .i64 p2.1.2.2] 57));clear h9 HC2)
 obtain ⟨W9,hW9⟩ : ∃ W,w9.alloc (.cells #[.string p2.1.1,.int .i64 p2.1.2.1,.int .i64 p2.1.2.2] 57)=W:=⟨_,rfl⟩
 obtain ⟨b9,hb9⟩ : ∃ b,w9.heap.size=b:=⟨_,rfl⟩
 rw [hW9] at HE HBX ⊢
 rw [hb9] at HBX ⊢
 clear hW9 hb9
 have HW:=Lib.hid (ra_wrong b EB.out HE.out)
 cases b with
 | true =>
   rw [if_pos rfl]
   go_wp2_with (go_at_call 31;(with_reducible refine HW.out.mono ?_);rintro o w10 ⟨rfl,rfl⟩;obtain ⟨⟨r0,r1,r2,r3⟩,g0,g1,g2,g3⟩:=HE.out.two.rc;obtain ⟨x0,x1,x2,x3⟩:=HE.out.two.wc;have z0:=cell_of_row _ _ 0 _ _ _ HBX.out;have z1:=cell_of_row _ _ 1 _ _ _ HBX.out;have z2:=cell_of_row _ _ 2 _ _ _ HBX.out)
   refine bodyPost_ret (v:=.tuple #[.agg #[.string ⟨#[]⟩,.slice none 0 0,.slice none 0 0,.slice none 0 0],.int .i64 4]) (by simp [results,Tryz.results8,go_sem,r0,r1,r2,r3]) rfl ?_
   exact gotS_zero (res4 HE.out.two.bel _ _ _ _)
 | false =>
   rw [if_neg (by decide)]
   have HBL:=Lib.hid (Array.getElem?_eq_some_iff.1 HBX.out).1
   have hhi:=HHI.out
   by_cases d1 : p2.1.2.2 < 1
   · have k1 : decide (p2.1.2.2 < 1)=true:=decide_eq_true d1
     have e : R=Rs.err 26:=by rw [← HRR.out];unfold countW;rw [if_pos d1]
     rw [e]
     clear d1
     go_wp2_with (first
      | (go_at_call 31;(with_reducible refine HW.out.mono ?_);rintro o w10 ⟨rfl,rfl⟩;obtain ⟨⟨r0,r1,r2,r3⟩,g0,g1,g2,g3⟩:=HE.out.two.rc;obtain ⟨x0,x1,x2,x3⟩:=HE.out.two.wc;have z0:=cell_of_row _ _ 0 _ _ _ HBX.out;have z1:=cell_of_row _ _ 1 _ _ _ HBX.out;have z2:=cell_of_row _ _ 2 _ _ _ HBX.out))
     refine bodyPost_ret (v:=.tuple #[.agg #[.string ⟨#[]⟩,.slice none 0 0,.slice none 0 0,.slice none 0 0],.int .i64 26]) (by simp [results,Tryz.results8,go_sem,r0,r1,r2,r3]) rfl ?_
     exact gotS_zero (res4 HE.out.two.bel _ _ _ _)
   · have k1 : decide (p2.1.2.2 < 1)=false:=decide_eq_false d1
     by_cases d2 : (0 : Int)≤ix
     · have k2 : decide ((0 : Int)≤ix)=true:=decide_eq_true d2
       have e : R=Rs.err 8:=by rw [← HRR.out];unfold countW;rw [HIX.out,if_neg d1,if_pos d2]
       rw [e]
       go_wp2_with (first
        | (go_at_call 31;(with_reducible refine HW.out.mono ?_);rintro o w10 ⟨rfl,rfl⟩;obtain ⟨⟨r0,r1,r2,r3⟩,g0,g1,g2,g3⟩:=HE.out.two.rc;obtain ⟨x0,x1,x2,x3⟩:=HE.out.two.wc;have z0:=cell_of_row _ _ 0 _ _ _ HBX.out;have z1:=cell_of_row _ _ 1 _ _ _ HBX.out;have z2:=cell_of_row _ _ 2 _ _ _ HBX.out)
        | (go_at_call 40;(with_reducible refine (HCO.out _ HE.out.two.bel).mono ?_);rintro o w11 ⟨rfl,hb11⟩;have HE1:=Lib.hid (HE.out.next hb11);have HBX1:=Lib.hid ((hb11.block _ HBL.out).trans HBX.out);obtain ⟨⟨r0,r1,r2,r3⟩,g0,g1,g2,g3⟩:=HE1.out.two.rc;obtain ⟨x0,x1,x2,x3⟩:=HE1.out.two.wc;have z0:=cell_of_row _ _ 0 _ _ _ HBX1.out;have z1:=cell_of_row _ _ 1 _ _ _ HBX1.out;have z2:=cell_of_row _ _ 2 _ _ _ HBX1.out;clear hb11))
       refine bodyPost_ret (v:=.tuple #[.agg #[.string ⟨#[]⟩,.slice none 0 0,.slice none 0 0,.slice none 0 0],.int .i64 8]) (by simp [results,Tryz.results8,go_sem,r0,r1,r2,r3]) rfl ?_
       exact gotS_zero (res4 HE1.out.two.bel _ _ _ _)
     · have k2 : decide ((0 : Int)≤ix)=false:=decide_eq_false d2
       have e : R=R2:=by rw [← HRR.out,← HR2.out];unfold countW;rw [HIX.out,if_neg d1,if_neg d2]
       go_wp2_with (first
        | (go_at_call 31;(with_reducible refine HW.out.mono ?_);rintro o w10 ⟨rfl,rfl⟩;obtain ⟨⟨r0,r1,r2,r3⟩,g0,g1,g2,g3⟩:=HE.out.two.rc;obtain ⟨x0,x1,x2,x3⟩:=HE.out.two.wc;have z0:=cell_of_row _ _ 0 _ _ _ HBX.out;have z1:=cell_of_row _ _ 1 _ _ _ HBX.out;have z2:=cell_of_row _ _ 2 _ _ _ HBX.out)
        | (go_at_call 40;(with_reducible refine (HCO.out _ HE.out.two.bel).mono ?_);rintro o w11 ⟨rfl,hb11⟩;have HE1:=Lib.hid (HE.out.next hb11);have HBX1:=Lib.hid ((hb11.block _ HBL.out).trans HBX.out);obtain ⟨⟨r0,r1,r2,r3⟩,g0,g1,g2,g3⟩:=HE1.out.two.rc;obtain ⟨x0,x1,x2,x3⟩:=HE1.out.two.wc;have z0:=cell_of_row _ _ 0 _ _ _ HBX1.out;have z1:=cell_of_row _ _ 1 _ _ _ HBX1.out;have z2:=cell_of_row _ _ 2 _ _ _ HBX1.out;clear hb11)
        | (go_at_call 41;(with_reducible refine (HUS.out _ HE1.out.two.bel).mono ?_);rintro o w12 ⟨A1,c1,A2,c2,A3,c3,rfl,hm,hb12⟩;have HM:=Lib.hid (And.intro hm hb12);have H12:=Lib.hid (HE1.out.two.next hb12);obtain ⟨⟨r0,r1,r2,r3⟩,g0,g1,g2,g3⟩:=H12.out.rc;clear hm hb12))
       refine bodyPost_ret (v:=.tuple #[.agg #[.string R2.sec,.slice A1 R2.qs.length c1,.slice A2 R2.hs.length c2,.slice A3 R2.us.length c3],.int .i64 R2.z]) (by simp [results,Tryz.results8,go_sem,r0,r1,r2,r3]) rfl ?_
       exact gotS_fin HS.out (S1:=S) (fun g hg=>.inl hg) HE1.out.two.size HE1.out.two.bel HM.out.1 HM.out.2 _ _ _ _
theorem natsN_le (l : Its) : (natsN l).length≤l.size:=by rw [natsN_len];exact Its.len_size l
theorem heldS_att (s : Its × Bool) (hok : okI s.1=true) (hsz : s.1.size≤10000) : (heldS s).1.att.length≤10000:=by
 unfold heldS
 dsimp only
 have k0:=nxQ_ok 2 s.1 s.2 _ hok hsz
 have k1:=nxQ_ok 1 (nxQ 2 s.1 s.2).1.2.2.2 false _ k0.2.1 k0.2.2
 have k2:=nxQ_ok 1 _ (nxQ 1 (nxQ 2 s.1 s.2).1.2.2.2 false).2.2 _ k1.1.1 k1.1.2
 have k3:=nbQ_ok _ (nxQ 1 (nxQ 1 (nxQ 2 s.1 s.2).1.2.2.2 false).2.1 (nxQ 1 (nxQ 2 s.1 s.2).1.2.2.2 false).2.2).2.2 _ k2.1.1 k2.1.2
 exact Nat.le_trans (natsN_le _) (nxQ_ok 2 _ _ _ k3.1 k3.2).2.2
theorem rap_held (sec : ByteArray) (qs : List Az) (hs : List Hz) (us : List Uz) (Aa Ah Au : Option Addr) (na ca nh ch nu cu : Nat) (S : Nat→Prop) (w : World) (hq : qs.length=na) (hn : hs.length=nh) (hu : us.length=nu) (hma : na < 4096) (hmh : nh < 4096) (hmu : nu < 4096) (ho : WalOk qs hs us) (h : WalM w S qs hs us Aa Ah Au) (hS : ∀ g,S g→g < w.heap.size) (s : ByteArray) (yn yt : ByteArray) (yl : Its) (hval : validW sec qs hs us=true) (hdec : decS s=.ok (2,yn,yt,yl)) (hok : okI yl=true) (hsz : yl.size≤10000) (p1 : Its.One × Its × Bool) (e1 : nxQ 1 yl false=p1)
  (n0 : (p1.1.2.2.1.toList==([115,101,99,114,101,116] : List UInt8))=false)
  (n1 : (p1.1.2.2.1.toList==([97,115,107,101,100] : List UInt8))=false)
  (n2 : (p1.1.2.2.1.toList==([104,101,108,100] : List UInt8))=true)
   :
  Calls Tryz.prog 8 #[.agg #[.string sec,.slice Aa na ca,.slice Ah nh ch,.slice Au nu cu],.string s] w (GotS S w ((if wrongQ (heldS (nxQ 1 p1.2.1 p1.2.2).2).2=true then Rs.err 4 else storeW sec qs hs us (nxQ 1 p1.2.1 p1.2.2).1.2.2.1 (heldS (nxQ 1 p1.2.1 p1.2.2).2).1))):=by
 have HV:=Lib.hid (fun W (hb : Below w.heap.size w W)=>r56_Valid sec qs hs us Aa Ah Au na ca nh ch nu cu S W hq hn hu (by omega) (by omega) (by omega) ho.att (h.keep (fun q hq=>hb.cell (hS _ hq))) (fun g hg=>Nat.lt_of_lt_of_le (hS g hg) hb.size))
 rw [hval] at HV
 have hD:=fun W=>r08_Decode s W
 rw [hdec] at hD
 have HD:=Lib.hid hD
 unfold DcR at HD
 dsimp only at HD
 have HS:=Lib.hid hS
 have HWM:=Lib.hid (fun W (hb : Below w.heap.size w W)=>h.keep (fun q hq=>hb.cell (hS _ hq)))
 have H0:=Lib.hid (Ra2.start (w:=w) (bc:=#[.string sec,.slice Aa na ca,.slice Ah nh ch,.slice Au nu cu]))
 obtain ⟨x0,x1,x2,x3⟩:=H0.out.wc
 have E1:=Lib.hid e1
 have HRA:=Lib.hid (fun (w4 w5 : World) (A5 : Option Addr) (c5 : Nat) (it : Obj) (h4 : Ra2 w #[.string sec,.slice Aa na ca,.slice Ah nh ch,.slice Au nu cu] w4) (h5 : Ra2 w #[.string sec,.slice Aa na ca,.slice Ah nh ch,.slice Au nu cu] w5) (hc : yl.len≤c5) (hs5 : SlK w5 (fun g=>w4.heap.size≤g∧g < w5.heap.size) A5 yl)=>RaB.start (it:=it) h4 h5 rfl hc hs5 hok hsz)
 have hf1:=fld_1
 have hf2:=fld_2
 have hatt : ∀ x ∈ hs,x.att.length≤100000:=fun x hx=>by have:=ho.att x hx;omega
 obtain ⟨p2,hp2⟩ : ∃ p,nxQ 1 p1.2.1 p1.2.2=p:=⟨_,rfl⟩
 rw [hp2]
 obtain ⟨p3,hp3⟩ : ∃ p,heldS p2.2=p:=⟨_,rfl⟩
 obtain ⟨b,hb⟩ : ∃ b,wrongQ p3.2=b:=⟨_,rfl⟩
 obtain ⟨R,hR⟩ : ∃ R,storeW sec qs hs us p2.1.2.2.1 p3.1=R:=⟨_,rfl⟩
 rw [hp3,hb,hR]
 have E2:=Lib.hid hp2
 have E3:=Lib.hid hp3
 have EB:=Lib.hid hb
 have hatt3 : p3.1.att.length≤10000:=by
  have q1:=nx1_ok yl hok hsz
  rw [e1] at q1
  have q2:=nxQ_ok 1 p1.2.1 p1.2.2 _ q1.1 q1.2
  rw [hp2] at q2
  rw [← hp3]
  exact heldS_att _ q2.1.1 q2.1.2
 have hva : validA [] qs=true:=by have hv:=hval;unfold validW at hv;simp only [Bool.and_eq_true] at hv;exact hv.2.1
 have HIN:=Lib.hid (fun (W : World) (A3 : Option Addr) (c3 : Nat) (hb : Below w.heap.size w W) (hz : w.heap.size+2≤W.heap.size) (hrow : RowC W (fun g=>w.heap.size+2≤g∧g < W.heap.size) A3 p3.1.att.length (cellsN p3.1.att))=>(show _ from hR ▸ store_gs sec qs hs us Aa Ah Au na ca nh ch nu cu (fun g=>S g∨(w.heap.size+2≤g∧g < W.heap.size)) W hq hn hu hma hmh hmu hatt ((h.keep (fun q hq=>hb.cell (hS _ hq))).mono (fun g hg=>.inl hg)) (fun g hg=>by rcases hg with hg | hg;{ exact Nat.lt_of_lt_of_le (hS g hg) hb.size };{ exact hg.2 }) p2.1.2.2.1 p3.1 A3 _ c3 hva rfl (hrow.mono (fun g hg=>.inr hg)) : Calls Tryz.prog 36 #[.agg #[.string sec,.slice Aa na ca,.slice Ah nh ch,.slice Au nu cu],.string p2.1.2.2.1,.agg #[.string p3.1.iss,.string p3.1.sch,.int .i64 p3.1.ver,.slice A3 p3.1.att.length c3,.string p3.1.a,.string p3.1.e,.string p3.1.v,.int .i64 p3.1.ep,.string p3.1.wit]] W (GotS (fun g=>S g∨(w.heap.size+2≤g∧g < W.heap.size)) W R)))
 clear hR
 clear hq hn hu hma hmh hmu ho h hS hval hdec hD e1 hok hsz hp2 hp3 hb hatt hatt3 hva
 go_enter Tryz.func8, Tryz.ntmps8
 go_upto_region 4 with (first
  | (go_at_call 28;(with_reducible refine (HV.out _ H0.out.bel).mono ?_);rintro e w4 ⟨rfl,hb4⟩;have H4:=Lib.hid (H0.out.next hb4);clear hb4 x0 x1 x2 x3)
  | (go_at_call 29;(with_reducible refine (HD.out _).mono ?_);rintro e w5 ⟨A5,c5,rfl,h51,h52,hb5⟩;have H5:=Lib.hid (H4.out.next hb5);have HM5:=Lib.hid (And.intro h51 h52);clear h51 h52 hb5))
 have HI:=Lib.hid (heap_alloc_new w5 (.cells #[.int .i64 2,.string yn,.string yt,.slice A5 yl.len c5] 63))
 have HR:=Lib.hid (HRA.out w4 w5 A5 c5 (.cells #[.int .i64 2,.string yn,.string yt,.slice A5 yl.len c5] 63) H4.out H5.out HM5.out.1 HM5.out.2)
 have k0:=cell_of_row _ _ 0 _ _ _ HI.out
 have k3:=cell_of_row _ _ 3 _ _ _ HI.out
 obtain ⟨T,hT⟩ : ∃ T : Nat→Prop,(fun g=>w4.heap.size≤g∧g < w5.heap.size)=T:=⟨_,rfl⟩
 rw [hT] at HR
 clear hT HM5 HRA
 go_upto_region 7 with fail
 obtain ⟨W7,hW7⟩ : ∃ W,(w5.alloc (.cells #[.int .i64 2,.string yn,.string yt,.slice A5 yl.len c5] 63)).alloc (.cells #[.slice A5 yl.len c5,.bool false] 82)=W:=⟨_,rfl⟩
 obtain ⟨rb,hrb⟩ : ∃ b,w5.heap.size+1=b:=⟨_,rfl⟩
 rw [hW7,hrb] at HR
 rw [hW7,hrb]
 clear hW7 hrb HI k0 k3
 have HC1:=Lib.hid (ra_next 1 p1 E1.out HR.out)
 go_upto_region 8 with (go_at_call 30;(with_reducible refine HC1.out.mono ?_);rintro o w8 ⟨A8,c8,rfl,h8⟩;have HR8:=Lib.hid h8;clear h8 HC1)
 have HC2:=Lib.hid (ra_next 1 p2 E2.out HR8.out)
 go_upto_region 20 with (go_at_call 30;(with_reducible refine HC2.out.mono ?_);rintro o w9 ⟨A9,c9,rfl,h9⟩;have HC3:=Lib.hid (ra_held p3 E3.out h9);clear h9 HC2)
 unfold valH at HC3
 go_upto_region 21 with (go_at_call 35;(with_reducible refine HC3.out.mono ?_);rintro o w10 ⟨A3,c3,rfl,hrow,h10⟩;have HRW:=Lib.hid ((hrow.keep (fun p hp=>((Below.refl w10.heap.size w10).alloc (Nat.le_refl _) (.cells #[.string p3.1.iss,.string p3.1.sch,.int .i64 p3.1.ver,.slice A3 p3.1.att.length c3,.string p3.1.a,.string p3.1.e,.string p3.1.v,.int .i64 p3.1.ep,.string p3.1.wit] 47)).cell hp.2)).mono (S':=fun g=>w.heap.size+2≤g∧g < (w10.alloc (.cells #[.string p3.1.iss,.string p3.1.sch,.int .i64 p3.1.ver,.slice A3 p3.1.att.length c3,.string p3.1.a,.string p3.1.e,.string p3.1.v,.int .i64 p3.1.ep,.string p3.1.wit] 47)).heap.size) (fun g hg=>⟨hg.1,by have:=hg.2;simp;omega⟩));have HE:=Lib.hid (h10.next ((Below.refl _ _).alloc (Nat.le_refl _) (.cells #[.string p3.1.iss,.string p3.1.sch,.int .i64 p3.1.ver,.slice A3 p3.1.att.length c3,.string p3.1.a,.string p3.1.e,.string p3.1.v,.int .i64 p3.1.ep,.string p3.1.wit] 47)));have HBX:=Lib.hid (heap_alloc_new w10 (.cells #[.string p3.1.iss,.string p3.1.sch,.int .i64 p3.1.ver,.slice A3 p3.1.att.length c3,.string p3.1.a,.string p3.1.e,.string p3.1.v,.int .i64 p3.1.ep,.string p3.1.wit] 47));clear h10 HC3 hrow)
 obtain ⟨W9,hW9⟩ : ∃ W,w10.alloc (.cells #[.string p3.1.iss,.string p3.1.sch,.int .i64 p3.1.ver,.slice A3 p3.1.att.length c3,.string p3.1.a,.string p3.1.e,.string p3.1.v,.int .i64 p3.1.ep,.string p3.1.wit] 47)=W:=⟨_,rfl⟩
 obtain ⟨b9,hb9⟩ : ∃ b,w10.heap.size=b:=⟨_,rfl⟩
 rw [hW9] at HE HBX HRW ⊢
 rw [hb9] at HBX ⊢
 clear hW9 hb9
 have HW:=Lib.hid (ra_wrong b EB.out HE.out)
 cases b with
 | true =>
   rw [if_pos rfl]
   go_wp2_with (go_at_call 31;(with_reducible refine HW.out.mono ?_);rintro o w11 ⟨rfl,rfl⟩;obtain ⟨⟨r0,r1,r2,r3⟩,g0,g1,g2,g3⟩:=HE.out.two.rc;obtain ⟨x0,x1,x2,x3⟩:=HE.out.two.wc;have z0:=cell_of_row _ _ 0 _ _ _ HBX.out;have z1:=cell_of_row _ _ 1 _ _ _ HBX.out;have z2:=cell_of_row _ _ 2 _ _ _ HBX.out;have z3:=cell_of_row _ _ 3 _ _ _ HBX.out;have z4:=cell_of_row _ _ 4 _ _ _ HBX.out;have z5:=cell_of_row _ _ 5 _ _ _ HBX.out;have z6:=cell_of_row _ _ 6 _ _ _ HBX.out;have z7:=cell_of_row _ _ 7 _ _ _ HBX.out;have z8:=cell_of_row _ _ 8 _ _ _ HBX.out)
   refine bodyPost_ret (v:=.tuple #[.agg #[.string ⟨#[]⟩,.slice none 0 0,.slice none 0 0,.slice none 0 0],.int .i64 4]) (by simp [results,Tryz.results8,go_sem,r0,r1,r2,r3]) rfl ?_
   exact gotS_zero (res4 HE.out.two.bel _ _ _ _)
 | false =>
   rw [if_neg (by decide)]
   go_wp2_with (first
    | (go_at_call 31;(with_reducible refine HW.out.mono ?_);rintro o w11 ⟨rfl,rfl⟩;obtain ⟨⟨r0,r1,r2,r3⟩,g0,g1,g2,g3⟩:=HE.out.two.rc;obtain ⟨x0,x1,x2,x3⟩:=HE.out.two.wc;have z0:=cell_of_row _ _ 0 _ _ _ HBX.out;have z1:=cell_of_row _ _ 1 _ _ _ HBX.out;have z2:=cell_of_row _ _ 2 _ _ _ HBX.out;have z3:=cell_of_row _ _ 3 _ _ _ HBX.out;have z4:=cell_of_row _ _ 4 _ _ _ HBX.out;have z5:=cell_of_row _ _ 5 _ _ _ HBX.out;have z6:=cell_of_row _ _ 6 _ _ _ HBX.out;have z7:=cell_of_row _ _ 7 _ _ _ HBX.out;have z8:=cell_of_row _ _ 8 _ _ _ HBX.out)
    | (go_at_call 36;(with_reducible refine (HIN.out _ _ _ HE.out.two.bel HE.out.two.size HRW.out).mono ?_);rintro o w12 ⟨A1,c1,A2,c2,A5,c5,rfl,hm,hb11⟩;have HM:=Lib.hid (And.intro hm hb11);have H11:=Lib.hid (HE.out.two.next hb11);obtain ⟨⟨r0,r1,r2,r3⟩,g0,g1,g2,g3⟩:=H11.out.rc;clear hm hb11))
   refine bodyPost_ret (v:=.tuple #[.agg #[.string R.sec,.slice A1 R.qs.length c1,.slice A2 R.hs.length c2,.slice A5 R.us.length c5],.int .i64 R.z]) (by simp [results,Tryz.results8,go_sem,r0,r1,r2,r3]) rfl ?_
   exact gotS_fin HS.out (fun g hg=>hg) HE.out.two.size HE.out.two.bel HM.out.1 HM.out.2 _ _ _ _
theorem rap_renewed (sec : ByteArray) (qs : List Az) (hs : List Hz) (us : List Uz) (Aa Ah Au : Option Addr) (na ca nh ch nu cu : Nat) (S : Nat→Prop) (w : World) (hq : qs.length=na) (hn : hs.length=nh) (hu : us.length=nu) (hma : na < 4096) (hmh : nh < 4096) (hmu : nu < 4096) (ho : WalOk qs hs us) (h : WalM w S qs hs us Aa Ah Au) (hS : ∀ g,S g→g < w.heap.size) (s : ByteArray) (yn yt : ByteArray) (yl : Its) (hval : validW sec qs hs us=true) (hdec : decS s=.ok (2,yn,yt,yl)) (hok : okI yl=true) (hsz : yl.size≤10000) (p1 : Its.One × Its × Bool) (e1 : nxQ 1 yl false=p1)
  (n0 : (p1.1.2.2.1.toList==([115,101,99,114,101,116] : List UInt8))=false)
  (n1 : (p1.1.2.2.1.toList==([97,115,107,101,100] : List UInt8))=false)
  (n2 : (p1.1.2.2.1.toList==([104,101,108,100] : List UInt8))=false)
  (n3 : (p1.1.2.2.1.toList==([114,101,110,101,119,101,100] : List UInt8))=true)
   :
  Calls Tryz.prog 8 #[.agg #[.string sec,.slice Aa na ca,.slice Ah nh ch,.slice Au nu cu],.string s] w (GotS S w ((if wrongQ (heldS (nbQ p1.2.1 p1.2.2).2).2=true then Rs.err 4 else renewW sec qs hs us (nbQ p1.2.1 p1.2.2).1 (heldS (nbQ p1.2.1 p1.2.2).2).1))):=by
 have HV:=Lib.hid (fun W (hb : Below w.heap.size w W)=>r56_Valid sec qs hs us Aa Ah Au na ca nh ch nu cu S W hq hn hu (by omega) (by omega) (by omega) ho.att (h.keep (fun q hq=>hb.cell (hS _ hq))) (fun g hg=>Nat.lt_of_lt_of_le (hS g hg) hb.size))
 rw [hval] at HV
 have hD:=fun W=>r08_Decode s W
 rw [hdec] at hD
 have HD:=Lib.hid hD
 unfold DcR at HD
 dsimp only at HD
 have HS:=Lib.hid hS
 have HWM:=Lib.hid (fun W (hb : Below w.heap.size w W)=>h.keep (fun q hq=>hb.cell (hS _ hq)))
 have H0:=Lib.hid (Ra2.start (w:=w) (bc:=#[.string sec,.slice Aa na ca,.slice Ah nh ch,.slice Au nu cu]))
 obtain ⟨x0,x1,x2,x3⟩:=H0.out.wc
 have E1:=Lib.hid e1
 have HRA:=Lib.hid (fun (w4 w5 : World) (A5 : Option Addr) (c5 : Nat) (it : Obj) (h4 : Ra2 w #[.string sec,.slice Aa na ca,.slice Ah nh ch,.slice Au nu cu] w4) (h5 : Ra2 w #[.string sec,.slice Aa na ca,.slice Ah nh ch,.slice Au nu cu] w5) (hc : yl.len≤c5) (hs5 : SlK w5 (fun g=>w4.heap.size≤g∧g < w5.heap.size) A5 yl)=>RaB.start (it:=it) h4 h5 rfl hc hs5 hok hsz)
 have hf1:=fld_1
 have hf2:=fld_2
 have hatt : ∀ x ∈ hs,x.att.length≤100000:=fun x hx=>by have:=ho.att x hx;omega
 obtain ⟨p2,hp2⟩ : ∃ p,nbQ p1.2.1 p1.2.2=p:=⟨_,rfl⟩
 rw [hp2]
 obtain ⟨p3,hp3⟩ : ∃ p,heldS p2.2=p:=⟨_,rfl⟩
 obtain ⟨b,hb⟩ : ∃ b,wrongQ p3.2=b:=⟨_,rfl⟩
 obtain ⟨R,hR⟩ : ∃ R,renewW sec qs hs us p2.1 p3.1=R:=⟨_,rfl⟩
 rw [hp3,hb,hR]
 have E2:=Lib.hid hp2
 have E3:=Lib.hid hp3
 have EB:=Lib.hid hb
 have hatt3 : p3.1.att.length≤10000:=by
  have q1:=nx1_ok yl hok hsz
  rw [e1] at q1
  have q2:=nbQ_ok p1.2.1 p1.2.2 _ q1.1 q1.2
  rw [hp2] at q2
  rw [← hp3]
  exact heldS_att _ q2.1 q2.2
 have hva : validA [] qs=true:=by have hv:=hval;unfold validW at hv;simp only [Bool.and_eq_true] at hv;exact hv.2.1
 have HIN:=Lib.hid (fun (W : World) (A3 : Option Addr) (c3 : Nat) (hb : Below w.heap.size w W) (hz : w.heap.size+2≤W.heap.size) (hrow : RowC W (fun g=>w.heap.size+2≤g∧g < W.heap.size) A3 p3.1.att.length (cellsN p3.1.att))=>(show _ from hR ▸ renew_gs sec qs hs us Aa Ah Au na ca nh ch nu cu (fun g=>S g∨(w.heap.size+2≤g∧g < W.heap.size)) W hq hn hu hma hmh hmu hatt ((h.keep (fun q hq=>hb.cell (hS _ hq))).mono (fun g hg=>.inl hg)) (fun g hg=>by rcases hg with hg | hg;{ exact Nat.lt_of_lt_of_le (hS g hg) hb.size };{ exact hg.2 }) p2.1 p3.1 A3 _ c3 rfl (by omega) (hrow.mono (fun g hg=>.inr hg)) : Calls Tryz.prog 38 #[.agg #[.string sec,.slice Aa na ca,.slice Ah nh ch,.slice Au nu cu],.int .i64 p2.1,.agg #[.string p3.1.iss,.string p3.1.sch,.int .i64 p3.1.ver,.slice A3 p3.1.att.length c3,.string p3.1.a,.string p3.1.e,.string p3.1.v,.int .i64 p3.1.ep,.string p3.1.wit]] W (GotS (fun g=>S g∨(w.heap.size+2≤g∧g < W.heap.size)) W R)))
 clear hR
 clear hq hn hu hma hmh hmu ho h hS hval hdec hD e1 hok hsz hp2 hp3 hb hatt hatt3 hva
 go_enter Tryz.func8, Tryz.ntmps8
 go_upto_region 4 with (first
  | (go_at_call 28;(with_reducible refine (HV.out _ H0.out.bel).mono ?_);rintro e w4 ⟨rfl,hb4⟩;have H4:=Lib.hid (H0.out.next hb4);clear hb4 x0 x1 x2 x3)
  | (go_at_call 29;(with_reducible refine (HD.out _).mono ?_);rintro e w5 ⟨A5,c5,rfl,h51,h52,hb5⟩;have H5:=Lib.hid (H4.out.next hb5);have HM5:=Lib.hid (And.intro h51 h52);clear h51 h52 hb5))
 have HI:=Lib.hid (heap_alloc_new w5 (.cells #[.int .i64 2,.string yn,.string yt,.slice A5 yl.len c5] 63))
 have HR:=Lib.hid (HRA.out w4 w5 A5 c5 (.cells #[.int .i64 2,.string yn,.string yt,.slice A5 yl.len c5] 63) H4.out H5.out HM5.out.1 HM5.out.2)
 have k0:=cell_of_row _ _ 0 _ _ _ HI.out
 have k3:=cell_of_row _ _ 3 _ _ _ HI.out
 obtain ⟨T,hT⟩ : ∃ T : Nat→Prop,(fun g=>w4.heap.size≤g∧g < w5.heap.size)=T:=⟨_,rfl⟩
 rw [hT] at HR
 clear hT HM5 HRA
 go_upto_region 7 with fail
 obtain ⟨W7,hW7⟩ : ∃ W,(w5.alloc (.cells #[.int .i64 2,.string yn,.string yt,.slice A5 yl.len c5] 63)).alloc (.cells #[.slice A5 yl.len c5,.bool false] 82)=W:=⟨_,rfl⟩
 obtain ⟨rb,hrb⟩ : ∃ b,w5.heap.size+1=b:=⟨_,rfl⟩
 rw [hW7,hrb] at HR
 rw [hW7,hrb]
 clear hW7 hrb HI k0 k3
 have HC1:=Lib.hid (ra_next 1 p1 E1.out HR.out)
 go_upto_region 8 with (go_at_call 30;(with_reducible refine HC1.out.mono ?_);rintro o w8 ⟨A8,c8,rfl,h8⟩;have HR8:=Lib.hid h8;clear h8 HC1)
 have HC2:=Lib.hid (ra_number p2 E2.out HR8.out)
 go_upto_region 26 with (go_at_call 37;(with_reducible refine HC2.out.mono ?_);rintro o w9 ⟨rfl,h9⟩;have HC3:=Lib.hid (ra_held p3 E3.out h9);clear h9 HC2)
 unfold valH at HC3
 go_upto_region 27 with (go_at_call 35;(with_reducible refine HC3.out.mono ?_);rintro o w10 ⟨A3,c3,rfl,hrow,h10⟩;have HRW:=Lib.hid ((hrow.keep (fun p hp=>((Below.refl w10.heap.size w10).alloc (Nat.le_refl _) (.cells #[.string p3.1.iss,.string p3.1.sch,.int .i64 p3.1.ver,.slice A3 p3.1.att.length c3,.string p3.1.a,.string p3.1.e,.string p3.1.v,.int .i64 p3.1.ep,.string p3.1.wit] 47)).cell hp.2)).mono (S':=fun g=>w.heap.size+2≤g∧g < (w10.alloc (.cells #[.string p3.1.iss,.string p3.1.sch,.int .i64 p3.1.ver,.slice A3 p3.1.att.length c3,.string p3.1.a,.string p3.1.e,.string p3.1.v,.int .i64 p3.1.ep,.string p3.1.wit] 47)).heap.size) (fun g hg=>⟨hg.1,by have:=hg.2;simp;omega⟩));have HE:=Lib.hid (h10.next ((Below.refl _ _).alloc (Nat.le_refl _) (.cells #[.string p3.1.iss,.string p3.1.sch,.int .i64 p3.1.ver,.slice A3 p3.1.att.length c3,.string p3.1.a,.string p3.1.e,.string p3.1.v,.int .i64 p3.1.ep,.string p3.1.wit] 47)));have HBX:=Lib.hid (heap_alloc_new w10 (.cells #[.string p3.1.iss,.string p3.1.sch,.int .i64 p3.1.ver,.slice A3 p3.1.att.length c3,.string p3.1.a,.string p3.1.e,.string p3.1.v,.int .i64 p3.1.ep,.string p3.1.wit] 47));clear h10 HC3 hrow)
 obtain ⟨W9,hW9⟩ : ∃ W,w10.alloc (.cells #[.string p3.1.iss,.string p3.1.sch,.int .i64 p3.1.ver,.slice A3 p3.1.att.length c3,.string p3.1.a,.string p3.1.e,.string p3.1.v,.int .i64 p3.1.ep,.string p3.1.wit] 47)=W:=⟨_,rfl⟩
 obtain ⟨b9,hb9⟩ : ∃ b,w10.heap.size=b:=⟨_,rfl⟩
 rw [hW9] at HE HBX HRW ⊢
 rw [hb9] at HBX ⊢
 clear hW9 hb9
 have HW:=Lib.hid (ra_wrong b EB.out HE.out)
 cases b with
 | true =>
   rw [if_pos rfl]
   go_wp2_with (go_at_call 31;(with_reducible refine HW.out.mono ?_);rintro o w11 ⟨rfl,rfl⟩;obtain ⟨⟨r0,r1,r2,r3⟩,g0,g1,g2,g3⟩:=HE.out.two.rc;obtain ⟨x0,x1,x2,x3⟩:=HE.out.two.wc;have z0:=cell_of_row _ _ 0 _ _ _ HBX.out;have z1:=cell_of_row _ _ 1 _ _ _ HBX.out;have z2:=cell_of_row _ _ 2 _ _ _ HBX.out;have z3:=cell_of_row _ _ 3 _ _ _ HBX.out;have z4:=cell_of_row _ _ 4 _ _ _ HBX.out;have z5:=cell_of_row _ _ 5 _ _ _ HBX.out;have z6:=cell_of_row _ _ 6 _ _ _ HBX.out;have z7:=cell_of_row _ _ 7 _ _ _ HBX.out;have z8:=cell_of_row _ _ 8 _ _ _ HBX.out)
   refine bodyPost_ret (v:=.tuple #[.agg #[.string ⟨#[]⟩,.slice none 0 0,.slice none 0 0,.slice none 0 0],.int .i64 4]) (by simp [results,Tryz.results8,go_sem,r0,r1,r2,r3]) rfl ?_
   exact gotS_zero (res4 HE.out.two.bel _ _ _ _)
 | false =>
   rw [if_neg (by decide)]
   go_wp2_with (first
    | (go_at_call 31;(with_reducible refine HW.out.mono ?_);rintro o w11 ⟨rfl,rfl⟩;obtain ⟨⟨r0,r1,r2,r3⟩,g0,g1,g2,g3⟩:=HE.out.two.rc;obtain ⟨x0,x1,x2,x3⟩:=HE.out.two.wc;have z0:=cell_of_row _ _ 0 _ _ _ HBX.out;have z1:=cell_of_row _ _ 1 _ _ _ HBX.out;have z2:=cell_of_row _ _ 2 _ _ _ HBX.out;have z3:=cell_of_row _ _ 3 _ _ _ HBX.out;have z4:=cell_of_row _ _ 4 _ _ _ HBX.out;have z5:=cell_of_row _ _ 5 _ _ _ HBX.out;have z6:=cell_of_row _ _ 6 _ _ _ HBX.out;have z7:=cell_of_row _ _ 7 _ _ _ HBX.out;have z8:=cell_of_row _ _ 8 _ _ _ HBX.out)
    | (go_at_call 38;(with_reducible refine (HIN.out _ _ _ HE.out.two.bel HE.out.two.size HRW.out).mono ?_);rintro o w12 ⟨A1,c1,A2,c2,A5,c5,rfl,hm,hb11⟩;have HM:=Lib.hid (And.intro hm hb11);have H11:=Lib.hid (HE.out.two.next hb11);obtain ⟨⟨r0,r1,r2,r3⟩,g0,g1,g2,g3⟩:=H11.out.rc;clear hm hb11))
   refine bodyPost_ret (v:=.tuple #[.agg #[.string R.sec,.slice A1 R.qs.length c1,.slice A2 R.hs.length c2,.slice A5 R.us.length c5],.int .i64 R.z]) (by simp [results,Tryz.results8,go_sem,r0,r1,r2,r3]) rfl ?_
   exact gotS_fin HS.out (fun g hg=>hg) HE.out.two.size HE.out.two.bel HM.out.1 HM.out.2 _ _ _ _
end Go.Proofs.YtjhlddlocpkhkaaGreat
namespace Go.Proofs.YtjhlddlocpkhkaaGreat
open Go.RowKit
set_option maxRecDepth 100000
set_option linter.unusedVariables false
set_option maxHeartbeats 8000000
structure KpB (bc xc : Array Value) (b9 : Nat) (w W0 W : World) : Prop where
 two : Ra2 w bc W
 box : W.heap[b9]?=some (.cells xc 47 (0,0))
 bel : Below W0.heap.size W0 W
section
variable {bc xc : Array Value} {b9 : Nat} {w W0 W w' : World}
theorem KpB.next (h : KpB bc xc b9 w W0 W) (hb : Below W.heap.size W w') : KpB bc xc b9 w W0 w':=⟨h.two.next hb,(hb.block _ (Array.getElem?_eq_some_iff.1 h.box).1).trans h.box,below2 h.bel hb⟩
theorem KpB.drew (h : KpB bc xc b9 w W0 W) : KpB bc xc b9 w W0 W.drew:=h.next (Below.refl _ _).drew
theorem KpB.alloc (h : KpB bc xc b9 w W0 W) (o : Obj) : KpB bc xc b9 w W0 (W.alloc o):=h.next ((Below.refl _ _).alloc (Nat.le_refl _) _)
theorem KpB.far (h : KpB bc xc b9 w W0 W) (hb9 : b9 < W0.heap.size) (hz : w.heap.size+2≤W0.heap.size) (hb : Below W0.heap.size W w') : KpB bc xc b9 w W0 w' :=
 ⟨⟨(hb.block _ (by omega)).trans h.two.one,(hb.block _ (by omega)).trans h.two.res,h.two.bel.trans (hb.mono (by omega)),Nat.le_trans h.two.size hb.size⟩,(hb.block _ hb9).trans h.box,h.bel.trans hb⟩
end
theorem walM_k {w W0 w2 w' : World} {S : Nat→Prop} {qs : List Az} {hs : List Hz} {us : List Uz} {x : Hz} {Aa Ah Au A A2 : Option Addr} {c2 n2 c : Nat} {L : List Value} (h : WalM w S qs hs us Aa Ah Au) (hS : ∀ g,S g→g < w.heap.size) (hr : RowC W0 (fun g=>w.heap.size+2≤g∧g < W0.heap.size) A x.att.length (cellsN x.att)) (hL : RelH w S hs L)
  (o2 : w2.ownsRow W0.heap.size 47 9 (.slice A2 n2 c2) n2 (L++cellsH x A c)) (e2 : n2=(hs++[x]).length)
  (hb : Below w.heap.size w w') (hk0 : ∀ p : Addr,w.heap.size+2≤p.block→p.block < W0.heap.size→w'.cell? p=W0.cell? p) (hk : ∀ p : Addr,W0.heap.size≤p.block→w'.cell? p=w2.cell? p) (hz0 : w.heap.size+2≤W0.heap.size) (hz1 : W0.heap.size≤w2.heap.size) (hz : w2.heap.size≤w'.heap.size) :
  WalM w' (fun g=>S g∨(w.heap.size≤g∧g < w'.heap.size)) qs (hs++[x]) us Aa A2 Au:=by
 subst e2
 have hl : ∀ g,S g→S g∨(w.heap.size≤g∧g < w'.heap.size):=fun g hg=>.inl hg
 have h':=(h.keep (w':=w') (fun p hp=>hb.cell (hS _ hp))).mono hl
 have hown : ∀ g,(W0.heap.size≤g∧g < w2.heap.size)→S g∨(w.heap.size≤g∧g < w'.heap.size):=fun g hg=>.inr ⟨by have:=hg.1;omega,Nat.lt_of_lt_of_le hg.2 hz⟩
 exact ⟨h'.a,⟨_,RowC.mono (RowC.keep (owns_row o2) (fun p hp=>hk p hp.1)) hown,RelH.app ((hL.keep (fun p hp=>hb.cell (hS _ hp))).mono hl) (RelH.single (RowC.mono (RowC.keep hr (fun p hp=>hk0 p hp.1 hp.2)) (fun g hg=>.inr ⟨by omega,by omega⟩)))⟩,h'.u⟩
end Go.Proofs.YtjhlddlocpkhkaaGreat
namespace Go.Proofs.YtjhlddlocpkhkaaGreat
open Go.RowKit
set_option maxRecDepth 100000
set_option linter.unusedVariables false
set_option maxHeartbeats 16000000
theorem rap_kept (sec : ByteArray) (qs : List Az) (hs : List Hz) (us : List Uz) (Aa Ah Au : Option Addr) (na ca nh ch nu cu : Nat) (S : Nat→Prop) (w : World) (hq : qs.length=na) (hn : hs.length=nh) (hu : us.length=nu) (hma : na < 4096) (hmh : nh < 4096) (hmu : nu < 4096) (ho : WalOk qs hs us) (h : WalM w S qs hs us Aa Ah Au) (hS : ∀ g,S g→g < w.heap.size) (s : ByteArray) (yn yt : ByteArray) (yl : Its) (hval : validW sec qs hs us=true) (hdec : decS s=.ok (2,yn,yt,yl)) (hok : okI yl=true) (hsz : yl.size≤10000) (p1 : Its.One × Its × Bool) (e1 : nxQ 1 yl false=p1)
  (n0 : (p1.1.2.2.1.toList==([115,101,99,114,101,116] : List UInt8))=false)
  (n1 : (p1.1.2.2.1.toList==([97,115,107,101,100] : List UInt8))=false)
  (n2 : (p1.1.2.2.1.toList==([104,101,108,100] : List UInt8))=false)
  (n3 : (p1.1.2.2.1.toList==([114,101,110,101,119,101,100] : List UInt8))=false)
  (n4 : (p1.1.2.2.1.toList==([117,115,101,100] : List UInt8))=false)
  (n5 : (p1.1.2.2.1.toList==([107,101,112,116] : List UInt8))=true)
   :
  Calls Tryz.prog 8 #[.agg #[.string sec,.slice Aa na ca,.slice Ah nh ch,.slice Au nu cu],.string s] w (GotS S w ((if wrongQ (heldS p1.2).2=true then Rs.err 4 else keepW sec qs hs us (heldS p1.2).1))):=by
 have HV:=Lib.hid (fun W (hb : Below w.heap.size w W)=>r56_Valid sec qs hs us Aa Ah Au na ca nh ch nu cu S W hq hn hu (by omega) (by omega) (by omega) ho.att (h.keep (fun q hq=>hb.cell (hS _ hq))) (fun g hg=>Nat.lt_of_lt_of_le (hS g hg) hb.size))
 rw [hval] at HV
 have hD:=fun W=>r08_Decode s W
 rw [hdec] at hD
 have HD:=Lib.hid hD
 unfold DcR at HD
 dsimp only at HD
 have HS:=Lib.hid hS
 have HWM:=Lib.hid (fun W (hb : Below w.heap.size w W)=>h.keep (fun q hq=>hb.cell (hS _ hq)))
 have H0:=Lib.hid (Ra2.start (w:=w) (bc:=#[.string sec,.slice Aa na ca,.slice Ah nh ch,.slice Au nu cu]))
 obtain ⟨x0,x1,x2,x3⟩:=H0.out.wc
 have E1:=Lib.hid e1
 have HRA:=Lib.hid (fun (w4 w5 : World) (A5 : Option Addr) (c5 : Nat) (it : Obj) (h4 : Ra2 w #[.string sec,.slice Aa na ca,.slice Ah nh ch,.slice Au nu cu] w4) (h5 : Ra2 w #[.string sec,.slice Aa na ca,.slice Ah nh ch,.slice Au nu cu] w5) (hc : yl.len≤c5) (hs5 : SlK w5 (fun g=>w4.heap.size≤g∧g < w5.heap.size) A5 yl)=>RaB.start (it:=it) h4 h5 rfl hc hs5 hok hsz)
 have hf1:=fld_1
 have hf2:=fld_2
 obtain ⟨p2,hp2⟩ : ∃ p,heldS p1.2=p:=⟨_,rfl⟩
 obtain ⟨b,hb⟩ : ∃ b,wrongQ p2.2=b:=⟨_,rfl⟩
 rw [hp2,hb]
 have E2:=Lib.hid hp2
 have EB:=Lib.hid hb
 have HW0:=Lib.hid h
 have HNN:=Lib.hid (And.intro hn hmh)
 have HQU:=Lib.hid (And.intro hq hu)
 clear hq hn hu hma hmh hmu ho h hS hval hdec hD e1 hok hsz hp2 hb
 go_enter Tryz.func8, Tryz.ntmps8
 go_upto_region 4 with (first
  | (go_at_call 28;(with_reducible refine (HV.out _ H0.out.bel).mono ?_);rintro e w4 ⟨rfl,hb4⟩;have H4:=Lib.hid (H0.out.next hb4);clear hb4 x0 x1 x2 x3)
  | (go_at_call 29;(with_reducible refine (HD.out _).mono ?_);rintro e w5 ⟨A5,c5,rfl,h51,h52,hb5⟩;have H5:=Lib.hid (H4.out.next hb5);have HM5:=Lib.hid (And.intro h51 h52);clear h51 h52 hb5))
 have HI:=Lib.hid (heap_alloc_new w5 (.cells #[.int .i64 2,.string yn,.string yt,.slice A5 yl.len c5] 63))
 have HR:=Lib.hid (HRA.out w4 w5 A5 c5 (.cells #[.int .i64 2,.string yn,.string yt,.slice A5 yl.len c5] 63) H4.out H5.out HM5.out.1 HM5.out.2)
 have k0:=cell_of_row _ _ 0 _ _ _ HI.out
 have k3:=cell_of_row _ _ 3 _ _ _ HI.out
 obtain ⟨T,hT⟩ : ∃ T : Nat→Prop,(fun g=>w4.heap.size≤g∧g < w5.heap.size)=T:=⟨_,rfl⟩
 rw [hT] at HR
 clear hT HM5 HRA
 go_upto_region 7 with fail
 obtain ⟨W7,hW7⟩ : ∃ W,(w5.alloc (.cells #[.int .i64 2,.string yn,.string yt,.slice A5 yl.len c5] 63)).alloc (.cells #[.slice A5 yl.len c5,.bool false] 82)=W:=⟨_,rfl⟩
 obtain ⟨rb,hrb⟩ : ∃ b,w5.heap.size+1=b:=⟨_,rfl⟩
 rw [hW7,hrb] at HR
 rw [hW7,hrb]
 clear hW7 hrb HI k0 k3
 have HC1:=Lib.hid (ra_next 1 p1 E1.out HR.out)
 go_upto_region 8 with (go_at_call 30;(with_reducible refine HC1.out.mono ?_);rintro o w8 ⟨A8,c8,rfl,h8⟩;have HR8:=Lib.hid h8;clear h8 HC1)
 have HC3:=Lib.hid (ra_held p2 E2.out HR8.out)
 unfold valH at HC3
 go_upto_region 40 with (go_at_call 35;(with_reducible refine HC3.out.mono ?_);rintro o w10 ⟨A3,c3,rfl,hrow,h10⟩;have HRW:=Lib.hid ((hrow.keep (fun p hp=>((Below.refl w10.heap.size w10).alloc (Nat.le_refl _) (.cells #[.string p2.1.iss,.string p2.1.sch,.int .i64 p2.1.ver,.slice A3 p2.1.att.length c3,.string p2.1.a,.string p2.1.e,.string p2.1.v,.int .i64 p2.1.ep,.string p2.1.wit] 47)).cell hp.2)).mono (S':=fun g=>w.heap.size+2≤g∧g < (w10.alloc (.cells #[.string p2.1.iss,.string p2.1.sch,.int .i64 p2.1.ver,.slice A3 p2.1.att.length c3,.string p2.1.a,.string p2.1.e,.string p2.1.v,.int .i64 p2.1.ep,.string p2.1.wit] 47)).heap.size) (fun g hg=>⟨hg.1,by have:=hg.2;simp;omega⟩));have HE:=Lib.hid (h10.next ((Below.refl _ _).alloc (Nat.le_refl _) (.cells #[.string p2.1.iss,.string p2.1.sch,.int .i64 p2.1.ver,.slice A3 p2.1.att.length c3,.string p2.1.a,.string p2.1.e,.string p2.1.v,.int .i64 p2.1.ep,.string p2.1.wit] 47)));have HBX:=Lib.hid (heap_alloc_new w10 (.cells #[.string p2.1.iss,.string p2.1.sch,.int .i64 p2.1.ver,.slice A3 p2.1.att.length c3,.string p2.1.a,.string p2.1.e,.string p2.1.v,.int .i64 p2.1.ep,.string p2.1.wit] 47));clear h10 HC3 hrow)
 obtain ⟨W9,hW9⟩ : ∃ W,w10.alloc (.cells #[.string p2.1.iss,.string p2.1.sch,.int .i64 p2.1.ver,.slice A3 p2.1.att.length c3,.string p2.1.a,.string p2.1.e,.string p2.1.v,.int .i64 p2.1.ep,.string p2.1.wit] 47)=W:=⟨_,rfl⟩
 obtain ⟨b9,hb9⟩ : ∃ b,w10.heap.size=b:=⟨_,rfl⟩
 rw [hW9] at HE HBX HRW ⊢
 rw [hb9] at HBX ⊢
 clear hW9 hb9
 have HW:=Lib.hid (ra_wrong b EB.out HE.out)
 cases b with
 | true =>
   rw [if_pos rfl]
   go_wp2_with (go_at_call 31;(with_reducible refine HW.out.mono ?_);rintro o w11 ⟨rfl,rfl⟩;obtain ⟨⟨r0,r1,r2,r3⟩,g0,g1,g2,g3⟩:=HE.out.two.rc;obtain ⟨x0,x1,x2,x3⟩:=HE.out.two.wc)
   refine bodyPost_ret (v:=.tuple #[.agg #[.string ⟨#[]⟩,.slice none 0 0,.slice none 0 0,.slice none 0 0],.int .i64 4]) (by simp [results,Tryz.results8,go_sem,r0,r1,r2,r3]) rfl ?_
   exact gotS_zero (res4 HE.out.two.bel _ _ _ _)
 | false =>
   rw [if_neg (by decide)]
   have k4 : decide ((4096 : Int)≤(nh : Int))=false:=decide_eq_false (by have:=HNN.out.2;omega)
   go_upto_region 45 with (go_at_call 31;(with_reducible refine HW.out.mono ?_);rintro o w11 ⟨rfl,rfl⟩;obtain ⟨⟨r0,r1,r2,r3⟩,g0,g1,g2,g3⟩:=HE.out.two.rc;obtain ⟨x0,x1,x2,x3⟩:=HE.out.two.wc)
   obtain ⟨Lh,hL1,hL2⟩:=HW0.out.h
   have HRH:=Lib.hid (fun W (hb : Below w.heap.size w W)=>RowC.reads (k:=9) (A:=Ah) (n:=nh) (L:=Lh) (by rw [HNN.out.1] at hL1;exact hL1) (by rw [hL2.length,HNN.out.1]) HS.out hb)
   have HONE:=Lib.hid hL2.one
   have HL2:=Lib.hid hL2
   have HON2 : Hid (∀ u ∈ ([.string p2.1.iss,.string p2.1.sch,.int .i64 p2.1.ver,.slice A3 p2.1.att.length c3,.string p2.1.a,.string p2.1.e,.string p2.1.v,.int .i64 p2.1.ep,.string p2.1.wit] : List Value),u.oneCell'=true):=Lib.hid (by simp [Value.oneCell'])
   have HK0 : Hid (KpB #[.string sec,.slice Aa na ca,.slice Ah nh ch,.slice Au nu cu] #[.string p2.1.iss,.string p2.1.sch,.int .i64 p2.1.ver,.slice A3 p2.1.att.length c3,.string p2.1.a,.string p2.1.e,.string p2.1.v,.int .i64 p2.1.ep,.string p2.1.wit] b9 w W9 W9):=Lib.hid ⟨HE.out.two,HBX.out,Below.refl _ _⟩
   clear hL1 hL2 r0 r1 r2 r3 g0 g1 g2 g3 k4 x0 x1 x3
   have y0:=cell_of_row _ _ 0 _ _ _ HBX.out
   have y1:=cell_of_row _ _ 1 _ _ _ HBX.out
   have y2:=cell_of_row _ _ 2 _ _ _ HBX.out
   have y3:=cell_of_row _ _ 3 _ _ _ HBX.out
   have y4:=cell_of_row _ _ 4 _ _ _ HBX.out
   have y5:=cell_of_row _ _ 5 _ _ _ HBX.out
   have y6:=cell_of_row _ _ 6 _ _ _ HBX.out
   have y7:=cell_of_row _ _ 7 _ _ _ HBX.out
   have y8:=cell_of_row _ _ 8 _ _ _ HBX.out
   have l0 : w.heap.size < W9.heap.size:=by have:=HE.out.two.size;omega
   have l9 : b9 < W9.heap.size:=(Array.getElem?_eq_some_iff.1 HBX.out).1
   have HL9:=Lib.hid l9
   have f2:=frozen_of_row _ _ 2 _ _ HE.out.two.one
   go_region_law (first
    | (refine step_copyH (by rfl) _ _ (by rfl) (by rfl) Ah nh ch Lh (by rfl) (HRH.out _ (by first | exact HK0.out | exact HK0.out.drew | exact HK0.out.alloc _ | exact (HK0.out.alloc _).drew | exact HK0.out.drew.alloc _ | exact (HK0.out.drew.alloc _).drew : KpB #[.string sec,.slice Aa na ca,.slice Ah nh ch,.slice Au nu cu] #[.string p2.1.iss,.string p2.1.sch,.int .i64 p2.1.ver,.slice A3 p2.1.att.length c3,.string p2.1.a,.string p2.1.e,.string p2.1.v,.int .i64 p2.1.ep,.string p2.1.wit] b9 w W9 _).two.bel) HONE.out (by have:=HNN.out.2;omega) ?_;intro A4 c4 w1 hown1 hb1;have n1:=(by first | exact HK0.out | exact HK0.out.drew | exact HK0.out.alloc _ | exact (HK0.out.alloc _).drew | exact HK0.out.drew.alloc _ | exact (HK0.out.drew.alloc _).drew : KpB #[.string sec,.slice Aa na ca,.slice Ah nh ch,.slice Au nu cu] #[.string p2.1.iss,.string p2.1.sch,.int .i64 p2.1.ver,.slice A3 p2.1.att.length c3,.string p2.1.a,.string p2.1.e,.string p2.1.v,.int .i64 p2.1.ep,.string p2.1.wit] b9 w W9 _).next hb1;have z0:=cell_of_row w1 _ 0 _ _ _ n1.box;have z1:=cell_of_row w1 _ 1 _ _ _ n1.box;have z2:=cell_of_row w1 _ 2 _ _ _ n1.box;have z3:=cell_of_row w1 _ 3 _ _ _ n1.box;have z4:=cell_of_row w1 _ 4 _ _ _ n1.box;have z5:=cell_of_row w1 _ 5 _ _ _ n1.box;have z6:=cell_of_row w1 _ 6 _ _ _ n1.box;have z7:=cell_of_row w1 _ 7 _ _ _ n1.box;have z8:=cell_of_row w1 _ 8 _ _ _ n1.box;have q2:=n1.two.wc.2.2.1;have f3:=frozen_of_row _ _ 2 _ _ n1.two.one;have l2 : w.heap.size < w1.heap.size:=(by have:=n1.two.size;omega);have l3 : b9 < w1.heap.size:=(Array.getElem?_eq_some_iff.1 n1.box).1;have HS1:=Lib.hid n1;have HO1:=Lib.hid (owns_mono hown1 (show W9.heap.size≤_ from ((by first | exact HK0.out | exact HK0.out.drew | exact HK0.out.alloc _ | exact (HK0.out.alloc _).drew | exact HK0.out.drew.alloc _ | exact (HK0.out.drew.alloc _).drew : KpB #[.string sec,.slice Aa na ca,.slice Ah nh ch,.slice Au nu cu] #[.string p2.1.iss,.string p2.1.sch,.int .i64 p2.1.ver,.slice A3 p2.1.att.length c3,.string p2.1.a,.string p2.1.e,.string p2.1.v,.int .i64 p2.1.ep,.string p2.1.wit] b9 w W9 _)).bel.size));have HBB1:=Lib.hid hb1;clear n1 hown1 hb1)
    | (refine step_addH (by rfl) _ _ (by rfl) W9.heap.size A4 nh c4 Lh (by rfl) (by first | exact HO1.out | exact owns_below HO1.out (Below.refl _ _).drew | exact owns_below HO1.out ((Below.refl _ _).alloc (Nat.le_refl _) _) | exact owns_below HO1.out (((Below.refl _ _).alloc (Nat.le_refl _) _).drew) | exact owns_below HO1.out ((Below.refl _ _).drew.alloc (Nat.le_refl _) _) | exact owns_below HO1.out ((Below.refl _ _).drew.alloc (Nat.le_refl _) _).drew) _ 1 [.string p2.1.iss,.string p2.1.sch,.int .i64 p2.1.ver,.slice A3 p2.1.att.length c3,.string p2.1.a,.string p2.1.e,.string p2.1.v,.int .i64 p2.1.ep,.string p2.1.wit] (by rfl) (by first | exact (reads_new _ [.string p2.1.iss,.string p2.1.sch,.int .i64 p2.1.ver,.slice A3 p2.1.att.length c3,.string p2.1.a,.string p2.1.e,.string p2.1.v,.int .i64 p2.1.ep,.string p2.1.wit] 47 9 rfl) | exact (reads_new _ [.string p2.1.iss,.string p2.1.sch,.int .i64 p2.1.ver,.slice A3 p2.1.att.length c3,.string p2.1.a,.string p2.1.e,.string p2.1.v,.int .i64 p2.1.ep,.string p2.1.wit] 47 9 rfl).drew | exact ((reads_new _ [.string p2.1.iss,.string p2.1.sch,.int .i64 p2.1.ver,.slice A3 p2.1.att.length c3,.string p2.1.a,.string p2.1.e,.string p2.1.v,.int .i64 p2.1.ep,.string p2.1.wit] 47 9 rfl).below HBB1.out).more HBB1.out.size | exact ((reads_new _ [.string p2.1.iss,.string p2.1.sch,.int .i64 p2.1.ver,.slice A3 p2.1.att.length c3,.string p2.1.a,.string p2.1.e,.string p2.1.v,.int .i64 p2.1.ep,.string p2.1.wit] 47 9 rfl).drew.below HBB1.out).more HBB1.out.size | exact (((reads_new _ [.string p2.1.iss,.string p2.1.sch,.int .i64 p2.1.ver,.slice A3 p2.1.att.length c3,.string p2.1.a,.string p2.1.e,.string p2.1.v,.int .i64 p2.1.ep,.string p2.1.wit] 47 9 rfl).below HBB1.out).more HBB1.out.size).drew | exact (((reads_new _ [.string p2.1.iss,.string p2.1.sch,.int .i64 p2.1.ver,.slice A3 p2.1.att.length c3,.string p2.1.a,.string p2.1.e,.string p2.1.v,.int .i64 p2.1.ep,.string p2.1.wit] 47 9 rfl).drew.below HBB1.out).more HBB1.out.size).drew) HON2.out (by have:=HNN.out.2;omega) ((by first | exact HS1.out | exact HS1.out.drew | exact HS1.out.alloc _ | exact (HS1.out.alloc _).drew | exact HS1.out.drew.alloc _ | exact (HS1.out.drew.alloc _).drew : KpB #[.string sec,.slice Aa na ca,.slice Ah nh ch,.slice Au nu cu] #[.string p2.1.iss,.string p2.1.sch,.int .i64 p2.1.ver,.slice A3 p2.1.att.length c3,.string p2.1.a,.string p2.1.e,.string p2.1.v,.int .i64 p2.1.ep,.string p2.1.wit] b9 w W9 _)).bel.size ?_;intro A2 c2 w2 hown2 hb2;have n2:=((by first | exact HS1.out | exact HS1.out.drew | exact HS1.out.alloc _ | exact (HS1.out.alloc _).drew | exact HS1.out.drew.alloc _ | exact (HS1.out.drew.alloc _).drew : KpB #[.string sec,.slice Aa na ca,.slice Ah nh ch,.slice Au nu cu] #[.string p2.1.iss,.string p2.1.sch,.int .i64 p2.1.ver,.slice A3 p2.1.att.length c3,.string p2.1.a,.string p2.1.e,.string p2.1.v,.int .i64 p2.1.ep,.string p2.1.wit] b9 w W9 _)).far HL9.out HE.out.two.size hb2;have q3:=n2.two.wc.2.2.1;have f4:=frozen_of_row _ _ 2 _ _ n2.two.one;have HS2:=Lib.hid n2;have HO2:=Lib.hid hown2;clear n2 hown2 hb2))
   all_goals
    obtain ⟨⟨r0,r1,r2,r3⟩,g0,g1,g2,g3⟩:=HS2.out.two.rc
    obtain ⟨x0,x1,x2,x3⟩:=HS2.out.two.wc
    go_wp2_with fail
    refine bodyPost_ret (v:=.tuple #[.agg #[.string sec,.slice Aa na ca,.slice A2 (nh+1) c2,.slice Au nu cu],.int .i64 0]) (by simp [results,Tryz.results8,go_sem,r0,r1,r2,r3]) rfl ?_
    have hz1 : W9.heap.size≤w2.heap.size:=HS2.out.bel.size
    have hz0:=HE.out.two.size
    have hc0 : ∀ (W : World) (g i : Nat) (u : Value) (p : Addr),g < w.heap.size+2→w.heap.size+2≤p.block→(W.setCell ⟨g,i,none⟩ u).cell? p=W.cell? p:=fun W g i u p hg hp=>World.cell?_setCell_other _ _ _ _ (fun e=>by have:=congrArg Addr.block e;simp at this;omega)
    have hbb : Below w.heap.size w _:=res4 (HS2.out.two.bel.setCell (p:=⟨w.heap.size,2,none⟩) (Nat.le_refl _) (.slice A2 (nh+1) c2)) (.string sec) (.slice Aa na ca) (.slice A2 (nh+1) c2) (.slice Au nu cu)
    have hcc : ∀ p : Addr,w.heap.size+2≤p.block→(((((w2.setCell ⟨w.heap.size,2,none⟩ (.slice A2 (nh+1) c2)).setCell ⟨w.heap.size+1,0,none⟩ (.string sec)).setCell ⟨w.heap.size+1,1,none⟩ (.slice Aa na ca)).setCell ⟨w.heap.size+1,2,none⟩ (.slice A2 (nh+1) c2)).setCell ⟨w.heap.size+1,3,none⟩ (.slice Au nu cu)).cell? p=w2.cell? p:=fun p hp=>by
     rw [hc0 _ _ _ _ _ (by omega) hp,hc0 _ _ _ _ _ (by omega) hp,hc0 _ _ _ _ _ (by omega) hp,hc0 _ _ _ _ _ (by omega) hp,hc0 _ _ _ _ _ (by omega) hp]
    have hln : nh+1=(hs++[p2.1]).length:=by rw [List.length_append,HNN.out.1];rfl
    have hm:=walM_k HW0.out HS.out HRW.out HL2.out (c:=c3) HO2.out hln hbb (fun p h1 h2=>(hcc p h1).trans (HS2.out.bel.cell h2)) (fun p h1=>hcc p (by omega)) hz0 hz1 (by simp)
    refine ⟨Aa,ca,A2,c2,Au,cu,?_,?_,?_⟩
    · unfold keepW Rs.of
      dsimp only
      rw [HQU.out.1,HQU.out.2,← hln]
    · exact hm
    · exact hbb
end Go.Proofs.YtjhlddlocpkhkaaGreat
namespace Go.Proofs.YtjhlddlocpkhkaaGreat
open Go.RowKit
set_option maxRecDepth 100000
set_option linter.unusedVariables false
set_option maxHeartbeats 8000000
theorem name_yes (a : Array UInt8) : ((⟨a⟩ : ByteArray).toList==a.toList)=true:=by rw [ByteArray.toList_eq];simp
theorem name_no {nm : ByteArray} {a : Array UInt8} (h : nm≠⟨a⟩) : (nm.toList==a.toList)=false:=by
 rw [ByteArray.toList_eq,beq_eq_false_iff_ne]
 intro e
 apply h
 obtain ⟨d⟩:=nm
 exact congrArg ByteArray.mk (Array.toList_inj.1 e)
theorem r56_ApplyA (sec : ByteArray) (qs : List Az) (hs : List Hz) (us : List Uz) (Aa Ah Au : Option Addr) (na ca nh ch nu cu : Nat) (S : Nat→Prop) (w : World) (hq : qs.length=na) (hn : hs.length=nh) (hu : us.length=nu) (hma : na < 4096) (hmh : nh < 4096) (hmu : nu < 4096) (ho : WalOk qs hs us) (h : WalM w S qs hs us Aa Ah Au) (hS : ∀ g,S g→g < w.heap.size) (s : ByteArray) (hsz : s.size≤10000) :
  Calls Tryz.prog 8 #[.agg #[.string sec,.slice Aa na ca,.slice Ah nh ch,.slice Au nu cu],.string s] w (GotS S w (applR sec qs hs us s)):=by
 unfold applR
 by_cases hval : validW sec qs hs us=true
 · rw [if_pos hval]
   cases hdec : decS s with
   | err z=>exact ra_bad sec qs hs us Aa Ah Au na ca nh ch nu cu S w hq hn hu hma hmh hmu ho h hS s z (by rcases dec_err hdec with ⟨_,h⟩ | ⟨_,_,h⟩ | ⟨_,h,_⟩<;>omega) hval hdec
   | ok y =>
     obtain ⟨yk,yn,yt,yl⟩:=y
     obtain ⟨hone,hsy⟩:=dec_ok hdec
     dsimp only at hsy ⊢
     have hyz : yl.size≤10000:=Nat.le_trans hsy hsz
     by_cases hk : yk=2
     · subst hk
       rw [if_pos rfl]
       have hok:=okOne_okI hone
       unfold entryE
       cases ht : rTxt yl with
       | none =>
         have e0 : (nxQ 1 yl false).1.2.2.1=⟨#[]⟩:=by
          unfold rTxt at ht;unfold nxQ
          cases hx : nxt 1 yl with
          | none=>rfl
          | some p=>rw [hx] at ht;cases ht
         exact ra_none sec qs hs us Aa Ah Au na ca nh ch nu cu S w hq hn hu hma hmh hmu ho h hS s yn yt yl hval hdec hok hyz _ rfl (by rw [e0];rw [ByteArray.toList_eq];decide) (by rw [e0];rw [ByteArray.toList_eq];decide) (by rw [e0];rw [ByteArray.toList_eq];decide) (by rw [e0];rw [ByteArray.toList_eq];decide) (by rw [e0];rw [ByteArray.toList_eq];decide) (by rw [e0];rw [ByteArray.toList_eq];decide) (by rw [e0];rw [ByteArray.toList_eq];decide)
       | some p =>
         obtain ⟨nm,r⟩:=p
         obtain ⟨a1,a2,a3⟩:=nx_txt1 (bad:=false) ht
         have a4 : (nxQ 1 yl false).2=(r,false):=Prod.ext a2 a3
         dsimp only
         unfold effE
         by_cases m0 : nm=nmSecret
         · rw [if_pos m0]
           have hh:=ra_secret sec qs hs us Aa Ah Au na ca nh ch nu cu S w hq hn hu hma hmh hmu ho h hS s yn yt yl hval hdec hok hyz _ rfl (by rw [a1,m0];exact name_yes _)
           unfold secretE
           rw [secret_law r]
           simp only [a2,a3] at hh
           by_cases hw : wrongQ (nxQ 0 r false).2=true
           · rw [if_pos hw] at hh
             rw [if_pos hw]
             exact hh
           · rw [if_neg hw] at hh
             rw [if_neg hw]
             exact hh
         rw [if_neg m0]
         by_cases m1 : nm=nmAsked
         · rw [if_pos m1]
           have hh:=rap_asked sec qs hs us Aa Ah Au na ca nh ch nu cu S w hq hn hu hma hmh hmu ho h hS s yn yt yl hval hdec hok hyz _ rfl (by rw [a1];exact name_no m0) (by rw [a1,m1];exact name_yes _)
           unfold askedE
           rw [asked_law r]
           rw [a4] at hh
           by_cases hw : wrongQ (askedS (r,false)).2=true
           · rw [if_pos hw] at hh
             rw [if_pos hw]
             exact hh
           · rw [if_neg hw] at hh
             rw [if_neg hw]
             exact hh
         rw [if_neg m1]
         by_cases m2 : nm=nmHeld
         · rw [if_pos m2]
           have hh:=rap_held sec qs hs us Aa Ah Au na ca nh ch nu cu S w hq hn hu hma hmh hmu ho h hS s yn yt yl hval hdec hok hyz _ rfl (by rw [a1];exact name_no m0) (by rw [a1];exact name_no m1) (by rw [a1,m2];exact name_yes _)
           unfold heldE
           rw [heldO_law r]
           unfold heldSS
           simp only [a2,a3] at hh
           by_cases hw : wrongQ (heldS (nxQ 1 r false).2).2=true
           · rw [if_pos hw] at hh
             rw [if_pos hw]
             exact hh
           · rw [if_neg hw] at hh
             rw [if_neg hw]
             exact hh
         rw [if_neg m2]
         by_cases m3 : nm=nmRenewed
         · rw [if_pos m3]
           have hh:=rap_renewed sec qs hs us Aa Ah Au na ca nh ch nu cu S w hq hn hu hma hmh hmu ho h hS s yn yt yl hval hdec hok hyz _ rfl (by rw [a1];exact name_no m0) (by rw [a1];exact name_no m1) (by rw [a1];exact name_no m2) (by rw [a1,m3];exact name_yes _)
           unfold renewedE
           rw [renewO_law r]
           unfold renewSS
           simp only [a2,a3] at hh
           by_cases hw : wrongQ (heldS (nbQ r false).2).2=true
           · rw [if_pos hw] at hh
             rw [if_pos hw]
             exact hh
           · rw [if_neg hw] at hh
             rw [if_neg hw]
             exact hh
         rw [if_neg m3]
         by_cases m4 : nm=nmUsed
         · rw [if_pos m4]
           have hh:=rap_used sec qs hs us Aa Ah Au na ca nh ch nu cu S w hq hn hu hma hmh hmu ho h hS s yn yt yl hval hdec hok hyz _ rfl (by rw [a1];exact name_no m0) (by rw [a1];exact name_no m1) (by rw [a1];exact name_no m2) (by rw [a1];exact name_no m3) (by rw [a1,m4];exact name_yes _)
           unfold spentE
           rw [used_law r]
           rw [a4] at hh
           by_cases hw : wrongQ (usedS (r,false)).2=true
           · rw [if_pos hw] at hh
             rw [if_pos hw]
             exact hh
           · rw [if_neg hw] at hh
             rw [if_neg hw]
             exact hh
         rw [if_neg m4]
         by_cases m5 : nm=nmKept
         · rw [if_pos m5]
           have hh:=rap_kept sec qs hs us Aa Ah Au na ca nh ch nu cu S w hq hn hu hma hmh hmu ho h hS s yn yt yl hval hdec hok hyz _ rfl (by rw [a1];exact name_no m0) (by rw [a1];exact name_no m1) (by rw [a1];exact name_no m2) (by rw [a1];exact name_no m3) (by rw [a1];exact name_no m4) (by rw [a1,m5];exact name_yes _)
           unfold keptE
           rw [kept_law r]
           rw [a4] at hh
           by_cases hw : wrongQ (heldS (r,false)).2=true
           · rw [if_pos hw] at hh
             rw [if_pos hw]
             exact hh
           · rw [if_neg hw] at hh
             rw [if_neg hw]
             exact hh
         rw [if_neg m5]
         by_cases m6 : nm=nmCounted
         · rw [if_pos m6]
           have hh:=rap_counted sec qs hs us Aa Ah Au na ca nh ch nu cu S w hq hn hu hma hmh hmu ho h hS s yn yt yl hval hdec hok hyz _ rfl (by rw [a1];exact name_no m0) (by rw [a1];exact name_no m1) (by rw [a1];exact name_no m2) (by rw [a1];exact name_no m3) (by rw [a1];exact name_no m4) (by rw [a1];exact name_no m5) (by rw [a1,m6];exact name_yes _)
           unfold countedE
           rw [used_law r]
           rw [a4] at hh
           by_cases hw : wrongQ (usedS (r,false)).2=true
           · rw [if_pos hw] at hh
             rw [if_pos hw]
             exact hh
           · rw [if_neg hw] at hh
             rw [if_neg hw]
             exact hh
         rw [if_neg m6]
         exact ra_none sec qs hs us Aa Ah Au na ca nh ch nu cu S w hq hn hu hma hmh hmu ho h hS s yn yt yl hval hdec hok hyz _ rfl (by rw [a1];exact name_no m0) (by rw [a1];exact name_no m1) (by rw [a1];exact name_no m2) (by rw [a1];exact name_no m3) (by rw [a1];exact name_no m4) (by rw [a1];exact name_no m5) (by rw [a1];exact name_no m6)
     · rw [if_neg hk]
       exact ra_kind sec qs hs us Aa Ah Au na ca nh ch nu cu S w hq hn hu hma hmh hmu ho h hS s yk yn yt yl hval hdec hk
 · rw [if_neg hval]
   exact ra_inv sec qs hs us Aa Ah Au na ca nh ch nu cu S w hq hn hu hma hmh hmu ho h hS s (by simpa using hval)
end Go.Proofs.YtjhlddlocpkhkaaGreat
namespace Go.Proofs.YtjhlddlocpkhkaaGreat
open Go.RowKit
set_option maxRecDepth 100000
set_option linter.unusedVariables false
set_option linter.unusedSectionVars false
set_option maxHeartbeats 8000000
section
variable {sec : ByteArray} {qs : List Az} {hs : List Hz} {us : List Uz} (h1 : qs.length≤8) (h2 : hs.length≤8) (h3 : us.length≤8) (h4 : ∀ x ∈ hs,x.att.length≤100000)
include h1 h2 h3 h4
theorem ask_small (a : Az) : SmallR (askW sec qs hs us a):=by
 unfold askW
 split
 · exact smallR_err _
 · exact ⟨by simp [Rs.of];omega,by simp [Rs.of];omega,by simp [Rs.of];omega,h4⟩
theorem keep_small (x : Hz) (h5 : x.att.length≤10000) : SmallR (keepW sec qs hs us x):=by
 refine ⟨by simp [keepW,Rs.of];omega,by simp [keepW,Rs.of];omega,by simp [keepW,Rs.of];omega,fun y hy=>?_⟩
 rcases List.mem_append.1 hy with hy | hy
 · exact h4 y hy
 · rw [List.mem_singleton.1 hy];omega
theorem store_small (nc : ByteArray) (x : Hz) (h5 : x.att.length≤10000) : SmallR (storeW sec qs hs us nc x):=by
 unfold storeW
 split
 · exact smallR_err _
 · split
   · exact smallR_err _
   · refine ⟨Nat.le_trans (List.length_filter_le _ _) (by omega),by simp [Rs.of];omega,by simp [Rs.of];omega,fun y hy=>?_⟩
     rcases List.mem_append.1 hy with hy | hy
     · exact h4 y hy
     · rw [List.mem_singleton.1 hy];omega
theorem renew_small (k : Int) (x : Hz) (h5 : x.att.length≤10000) : SmallR (renewW sec qs hs us k x):=by
 unfold renewW
 split
 · exact smallR_err _
 · split
   · exact smallR_err _
   · split
     · split
       · exact smallR_err _
       · refine ⟨by simp [Rs.of];omega,by simp [Rs.of];omega,by simp [Rs.of];omega,fun y hy=>?_⟩
         rcases List.mem_or_eq_of_mem_set hy with hy | hy
         · exact h4 y hy
         · rw [hy];omega
     · exact smallR_err _
theorem use_small (u : Uz) : SmallR (useW sec qs hs us u):=⟨by simp [useW,Rs.of];omega,by simp [useW,Rs.of];omega,Nat.le_trans (putU_len _ _) (by simp;omega),h4⟩
theorem appl_small (s : ByteArray) (hsz : s.size≤10000) : SmallR (applR sec qs hs us s):=by
 unfold applR
 split
 · cases hdec : decS s with
   | err z=>exact smallR_err _
   | ok y =>
     obtain ⟨yk,yn,yt,yl⟩:=y
     obtain ⟨hone,hsy⟩:=dec_ok hdec
     dsimp only at hsy ⊢
     split
     · have hok:=okOne_okI hone
       unfold entryE
       cases ht : rTxt yl with
       | none=>exact smallR_err _
       | some p =>
         obtain ⟨nm,r⟩:=p
         obtain ⟨e,hor⟩:=rTxt_some hok ht
         have hrz : r.size≤10000:=by rw [e] at hsy;exact Nat.le_trans (size_tail hsy).2 hsz
         have hH : ∀ (l : Its) (bad : Bool),okI l=true→l.size≤10000→(heldS (l,bad)).1.att.length≤10000:=fun l bad k1 k2=>heldS_att (l,bad) k1 k2
         dsimp only
         unfold effE
         split
         · unfold secretE
           split
           · exact smallR_err _
           · exact ⟨by simp [Rs.of],by simp [Rs.of],by simp [Rs.of],fun x hx=>by simp [Rs.of] at hx⟩
         · split
           · unfold askedE
             split
             · exact smallR_err _
             · exact ask_small h1 h2 h3 h4 _
           · split
             · unfold heldE
               rw [heldO_law]
               split
               · exact smallR_err _
               · rename_i p hp
                 split at hp
                 · cases hp
                 · injection hp with hp
                   subst hp
                   exact store_small h1 h2 h3 h4 _ _ (heldS_att _ (nxQ_ok 1 r false _ hor hrz).1.1 (nxQ_ok 1 r false _ hor hrz).1.2)
             · split
               · unfold renewedE
                 rw [renewO_law]
                 split
                 · exact smallR_err _
                 · rename_i p hp
                   split at hp
                   · cases hp
                   · injection hp with hp
                     subst hp
                     exact renew_small h1 h2 h3 h4 _ _ (heldS_att _ (nbQ_ok r false _ hor hrz).1 (nbQ_ok r false _ hor hrz).2)
               · split
                 · unfold spentE
                   split
                   · exact smallR_err _
                   · unfold spendW
                     split
                     · exact smallR_err _
                     · exact use_small h1 h2 h3 h4 _
                 · split
                   · unfold keptE
                     rw [kept_law]
                     split
                     · exact smallR_err _
                     · rename_i p hp
                       split at hp
                       · cases hp
                       · injection hp with hp
                         subst hp
                         exact keep_small h1 h2 h3 h4 _ (hH _ _ hor hrz)
                   · split
                     · unfold countedE
                       split
                       · exact smallR_err _
                       · unfold countW
                         split
                         · exact smallR_err _
                         · split
                           · exact smallR_err _
                           · exact use_small h1 h2 h3 h4 _
                     · exact smallR_err _
     · exact smallR_err _
 · exact smallR_err _
end
end Go.Proofs.YtjhlddlocpkhkaaGreat
