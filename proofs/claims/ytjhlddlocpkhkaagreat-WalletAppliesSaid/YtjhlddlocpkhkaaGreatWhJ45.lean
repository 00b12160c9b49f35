/- Wallet: the law WalletApplies. Printed by genAru.py. WalletApplies: for every wallet and every entry the law returns true, and its arguments read as before. No condition. -/
import Derived.Test.YtjhlddlocpkhkaaGreatWhJ44
import Derived.Test.YtjhlddlocpkhkaaGreatWhJ38
namespace Go.Proofs.YtjhlddlocpkhkaaGreat
open Go.RowKit
set_option maxRecDepth 100000
set_option linter.unusedVariables false
set_option maxHeartbeats 16000000
structure LaB (w : World) (v0 v1 v2 v3 : Value) (W : World) : Prop where
 one : W.heap[w.heap.size]?=some (.cells #[v0,v1,v2,v3] 27 (0,0))
 bel : Below w.heap.size w W
 size : w.heap.size+1≤W.heap.size
theorem LaB.next {w W w' : World} {v0 v1 v2 v3 : Value} (h : LaB w v0 v1 v2 v3 W) (hb : Below W.heap.size W w') : LaB w v0 v1 v2 v3 w' :=
 ⟨(hb.block _ (by have:=h.size;omega)).trans h.one,below2 h.bel hb,Nat.le_trans h.size hb.size⟩
theorem LaB.start {w : World} {v0 v1 v2 v3 : Value} : LaB w v0 v1 v2 v3 (w.alloc (.cells #[v0,v1,v2,v3] 27)):=⟨heap_alloc_new w _,(Below.refl _ _).alloc (Nat.le_refl _) _,by simp⟩
theorem LaB.wc {w W : World} {v0 v1 v2 v3 : Value} (h : LaB w v0 v1 v2 v3 W) : W.cell? ⟨w.heap.size,0,none⟩=some v0∧W.cell? ⟨w.heap.size,1,none⟩=some v1∧W.cell? ⟨w.heap.size,2,none⟩=some v2∧W.cell? ⟨w.heap.size,3,none⟩=some v3 :=
 ⟨cell_of_row W _ 0 _ _ _ h.one,cell_of_row W _ 1 _ _ _ h.one,cell_of_row W _ 2 _ _ _ h.one,cell_of_row W _ 3 _ _ _ h.one⟩
theorem applies_many (sec : ByteArray) (qs : List Az) (hs : List Hz) (us : List Uz) (Aa Ah Au : Option Addr) (na ca nh ch nu cu : Nat) (s : ByteArray) (S : Nat→Prop) (w : World) (r : Nat) (hr : r≤140737488355328) (hba : ∀ x ∈ qs,BndA r x) (hbh : ∀ x ∈ hs,BndH r x) (hbu : ∀ x ∈ us,x.1.size≤r) (hwf : ∀ x ∈ us,(Lit.int .i64 x.2.1).wf=true) (hq : qs.length=na) (hn : hs.length=nh) (hu : us.length=nu) (h : WalM w S qs hs us Aa Ah Au) (hS : ∀ g,S g→g < w.heap.size) (hfw : fewB sec qs hs us=false) :
  Calls Tryz.prog 3 #[.agg #[.string sec,.slice Aa na ca,.slice Ah nh ch,.slice Au nu cu],.string s] w fun e w'=>e=.returned (.bool true)∧Below w.heap.size w w':=by
 have HAW:=Lib.hid (fun W=>law56_awake W)
 have HB0:=Lib.hid (LaB.start (w:=w) (v0:=.string sec) (v1:=.slice Aa na ca) (v2:=.slice Ah nh ch) (v3:=.slice Au nu cu))
 have hk : ∀ W,Below w.heap.size w W→WalM W S qs hs us Aa Ah Au:=fun W hb=>h.keep (fun q hq=>hb.cell (hS _ hq))
 have hs' : ∀ W,Below w.heap.size w W→∀ g,S g→g < W.heap.size:=fun W hb g hg=>Nat.lt_of_lt_of_le (hS g hg) hb.size
 have HF:=Lib.hid (fun W (hb : Below w.heap.size w W)=>law56_few sec qs hs us Aa Ah Au na ca nh ch nu cu S W r hr hba hbh hbu hq hn hu (hk W hb) (hs' W hb))
 rw [hfw] at HF
 obtain ⟨x0,x1,x2,x3⟩:=HB0.out.wc
 clear hr hba hbh hbu hwf hq hn hu h hS hk hs' hfw
 go_enter Tryz.func3, Tryz.ntmps3
 go_wp2_with (first
  | (go_at_call 5;(with_reducible refine (HF.out _ HB0.out.bel).mono ?_);rintro e w1 ⟨rfl,hb1⟩;have HB1:=Lib.hid (HB0.out.next hb1);clear hb1 x0 x1 x2 x3;obtain ⟨x0,x1,x2,x3⟩:=HB1.out.wc)
  | (go_at_call 6;(with_reducible refine (HAW.out _).mono ?_);rintro e w2 ⟨rfl,hb2⟩;have HB2:=Lib.hid (HB1.out.next hb2);clear hb2))
 go_ret
 exact ⟨rfl,HB2.out.bel⟩
theorem applies_long (sec : ByteArray) (qs : List Az) (hs : List Hz) (us : List Uz) (Aa Ah Au : Option Addr) (na ca nh ch nu cu : Nat) (s : ByteArray) (S : Nat→Prop) (w : World) (r : Nat) (hr : r≤140737488355328) (hba : ∀ x ∈ qs,BndA r x) (hbh : ∀ x ∈ hs,BndH r x) (hbu : ∀ x ∈ us,x.1.size≤r) (hwf : ∀ x ∈ us,(Lit.int .i64 x.2.1).wf=true) (hq : qs.length=na) (hn : hs.length=nh) (hu : us.length=nu) (h : WalM w S qs hs us Aa Ah Au) (hS : ∀ g,S g→g < w.heap.size) (hfw : fewB sec qs hs us=true) (hlg : 1500 < s.size) :
  Calls Tryz.prog 3 #[.agg #[.string sec,.slice Aa na ca,.slice Ah nh ch,.slice Au nu cu],.string s] w fun e w'=>e=.returned (.bool true)∧Below w.heap.size w w':=by
 have HAW:=Lib.hid (fun W=>law56_awake W)
 have HB0:=Lib.hid (LaB.start (w:=w) (v0:=.string sec) (v1:=.slice Aa na ca) (v2:=.slice Ah nh ch) (v3:=.slice Au nu cu))
 have hk : ∀ W,Below w.heap.size w W→WalM W S qs hs us Aa Ah Au:=fun W hb=>h.keep (fun q hq=>hb.cell (hS _ hq))
 have hs' : ∀ W,Below w.heap.size w W→∀ g,S g→g < W.heap.size:=fun W hb g hg=>Nat.lt_of_lt_of_le (hS g hg) hb.size
 have HF:=Lib.hid (fun W (hb : Below w.heap.size w W)=>law56_few sec qs hs us Aa Ah Au na ca nh ch nu cu S W r hr hba hbh hbu hq hn hu (hk W hb) (hs' W hb))
 rw [hfw] at HF
 have i1 : decide ((1500 : Int) < (s.size : Int))=true:=decide_eq_true (by omega)
 obtain ⟨x0,x1,x2,x3⟩:=HB0.out.wc
 clear hr hba hbh hbu hwf hq hn hu h hS hk hs' hfw
 go_enter Tryz.func3, Tryz.ntmps3
 go_wp2_with (first
  | (go_at_call 5;(with_reducible refine (HF.out _ HB0.out.bel).mono ?_);rintro e w1 ⟨rfl,hb1⟩;have HB1:=Lib.hid (HB0.out.next hb1);clear hb1 x0 x1 x2 x3;obtain ⟨x0,x1,x2,x3⟩:=HB1.out.wc)
  | (go_at_call 6;(with_reducible refine (HAW.out _).mono ?_);rintro e w2 ⟨rfl,hb2⟩;have HB2:=Lib.hid (HB1.out.next hb2);clear hb2))
 go_ret
 exact ⟨rfl,HB2.out.bel⟩
theorem applies_short (sec : ByteArray) (qs : List Az) (hs : List Hz) (us : List Uz) (Aa Ah Au : Option Addr) (na ca nh ch nu cu : Nat) (s : ByteArray) (S : Nat→Prop) (w : World) (r : Nat) (hr : r≤140737488355328) (hba : ∀ x ∈ qs,BndA r x) (hbh : ∀ x ∈ hs,BndH r x) (hbu : ∀ x ∈ us,x.1.size≤r) (hwf : ∀ x ∈ us,(Lit.int .i64 x.2.1).wf=true) (hq : qs.length=na) (hn : hs.length=nh) (hu : us.length=nu) (h : WalM w S qs hs us Aa Ah Au) (hS : ∀ g,S g→g < w.heap.size) (hfw : fewB sec qs hs us=true) (hlg : ¬ 1500 < s.size) :
  Calls Tryz.prog 3 #[.agg #[.string sec,.slice Aa na ca,.slice Ah nh ch,.slice Au nu cu],.string s] w fun e w'=>e=.returned (.bool true)∧Below w.heap.size w w':=by
 have HAW:=Lib.hid (fun W=>law56_awake W)
 have HB0:=Lib.hid (LaB.start (w:=w) (v0:=.string sec) (v1:=.slice Aa na ca) (v2:=.slice Ah nh ch) (v3:=.slice Au nu cu))
 have hk : ∀ W,Below w.heap.size w W→WalM W S qs hs us Aa Ah Au:=fun W hb=>h.keep (fun q hq=>hb.cell (hS _ hq))
 have hs' : ∀ W,Below w.heap.size w W→∀ g,S g→g < W.heap.size:=fun W hb g hg=>Nat.lt_of_lt_of_le (hS g hg) hb.size
 have HF:=Lib.hid (fun W (hb : Below w.heap.size w W)=>law56_few sec qs hs us Aa Ah Au na ca nh ch nu cu S W r hr hba hbh hbu hq hn hu (hk W hb) (hs' W hb))
 rw [hfw] at HF
 have hfo:=few_okR hfw hwf
 obtain ⟨⟨e1,e2,e3,-,-⟩,e6⟩:=few_all hfw
 have i1 : decide ((1500 : Int) < (s.size : Int))=false:=decide_eq_false (by omega)
 have HPA:=Lib.hid (fun W (hb : Below w.heap.size w W)=>wal_ApplyA sec qs hs us Aa Ah Au na ca nh ch nu cu S W hq hn hu (by omega) (by omega) (by omega) hfo (hk W hb) (hs' W hb) s (by omega))
 have HRA:=Lib.hid (fun W (hb : Below w.heap.size w W)=>r56_ApplyA sec qs hs us Aa Ah Au na ca nh ch nu cu S W hq hn hu (by omega) (by omega) (by omega) hfo (hk W hb) (hs' W hb) s (by omega))
 have hsm:=appl_small (sec:=sec) e1 e2 e3 (fun x hx=>by have:=(e6 x hx).1;omega) s (by omega)
 obtain ⟨R,hR⟩ : ∃ R,applR sec qs hs us s=R:=⟨_,rfl⟩
 rw [hR] at HPA HRA hsm
 have HLIM:=Lib.hid hsm
 have HSS:=Lib.hid hS
 unfold GotN at HPA
 unfold GotS at HRA
 have d3 : (R.z==R.z)=true:=by simp
 obtain ⟨x0,x1,x2,x3⟩:=HB0.out.wc
 clear hR e1 e2 e3 e6 hfo hsm hlg
 clear hr hba hbh hbu hwf hq hn hu h hS hk hs' hfw
 go_enter Tryz.func3, Tryz.ntmps3
 go_upto_region 3 with (go_at_call 5;(with_reducible refine (HF.out _ HB0.out.bel).mono ?_);rintro e w1 ⟨rfl,hb1⟩;have HB1:=Lib.hid (HB0.out.next hb1);clear hb1 x0 x1 x2 x3;obtain ⟨x0,x1,x2,x3⟩:=HB1.out.wc)
 go_upto_region 4 with (go_at_call 7;(with_reducible refine (HPA.out _ HB1.out.bel).mono ?_);rintro e w3 ⟨A1,c1,A2,c2,A3,c3,rfl,hm,hb3⟩;have HM3:=Lib.hid hm;have HB3:=Lib.hid (HB1.out.next hb3);clear hb3 hm x0 x1 x2 x3)
 have hal:=(Below.refl w3.heap.size w3).alloc (Nat.le_refl _) (.cells #[.string R.sec,.slice A1 R.qs.length c1,.slice A2 R.hs.length c2,.slice A3 R.us.length c3] 27)
 have HB4:=Lib.hid (HB3.out.next hal)
 have hbx:=heap_alloc_new w3 (.cells #[.string R.sec,.slice A1 R.qs.length c1,.slice A2 R.hs.length c2,.slice A3 R.us.length c3] 27)
 have HM4:=Lib.hid ((HM3.out.keep (w':=w3.alloc (.cells #[.string R.sec,.slice A1 R.qs.length c1,.slice A2 R.hs.length c2,.slice A3 R.us.length c3] 27)) (fun p hp=>hal.cell hp.2)).mono (S':=fun g=>g < w3.heap.size) (fun g hg=>hg.2))
 have hlt : w3.heap.size < (w3.alloc (.cells #[.string R.sec,.slice A1 R.qs.length c1,.slice A2 R.hs.length c2,.slice A3 R.us.length c3] 27)).heap.size:=by simp
 obtain ⟨w4,hw4⟩ : ∃ w4,w3.alloc (.cells #[.string R.sec,.slice A1 R.qs.length c1,.slice A2 R.hs.length c2,.slice A3 R.us.length c3] 27)=w4:=⟨_,rfl⟩
 rw [hw4] at HB4 HM4 hbx hlt ⊢
 obtain ⟨b7,hb7⟩ : ∃ b,w3.heap.size=b:=⟨_,rfl⟩
 rw [hb7] at HM4 hbx hlt ⊢
 have HBX:=Lib.hid hbx
 have HLT:=Lib.hid hlt
 clear hw4 hb7 hal hbx hlt
 obtain ⟨x0,x1,x2,x3⟩:=HB4.out.wc
 go_upto_region 5 with (go_at_call 8;(with_reducible refine (HRA.out _ HB4.out.bel).mono ?_);rintro e w5 ⟨D1,f1,D2,f2,D3,f3,rfl,hm,hb5⟩;have HM5:=Lib.hid hm;have HB5:=Lib.hid (HB4.out.next hb5);have HBB:=Lib.hid hb5;clear hb5 hm x0 x1 x2 x3)
 have hal5:=(Below.refl w5.heap.size w5).alloc (Nat.le_refl _) (.cells #[.string R.sec,.slice D1 R.qs.length f1,.slice D2 R.hs.length f2,.slice D3 R.us.length f3] 27)
 have HB6:=Lib.hid (HB5.out.next hal5)
 have hbx6:=heap_alloc_new w5 (.cells #[.string R.sec,.slice D1 R.qs.length f1,.slice D2 R.hs.length f2,.slice D3 R.us.length f3] 27)
 have hlt6 : w5.heap.size < (w5.alloc (.cells #[.string R.sec,.slice D1 R.qs.length f1,.slice D2 R.hs.length f2,.slice D3 R.us.length f3] 27)).heap.size:=by simp
 have HMb:=Lib.hid ((HM5.out.keep (w':=w5.alloc (.cells #[.string R.sec,.slice D1 R.qs.length f1,.slice D2 R.hs.length f2,.slice D3 R.us.length f3] 27)) (fun p hp=>hal5.cell (by rcases hp with hp | hp;{ exact Nat.lt_of_lt_of_le (HSS.out _ hp) HB5.out.bel.size };{ exact hp.2 }))).mono (S':=fun g=>g < w5.heap.size) (fun g hg=>by rcases hg with hg | hg;{ exact Nat.lt_of_lt_of_le (HSS.out _ hg) HB5.out.bel.size };{ exact hg.2 }))
 have HMa:=Lib.hid (HM4.out.keep (w':=w5.alloc (.cells #[.string R.sec,.slice D1 R.qs.length f1,.slice D2 R.hs.length f2,.slice D3 R.us.length f3] 27)) (fun p hp=>(hal5.cell (Nat.lt_of_lt_of_le (Nat.lt_trans hp HLT.out) HBB.out.size)).trans (HBB.out.cell (Nat.lt_trans hp HLT.out))))
 have hbx4 : (w5.alloc (.cells #[.string R.sec,.slice D1 R.qs.length f1,.slice D2 R.hs.length f2,.slice D3 R.us.length f3] 27)).heap[b7]?=some (.cells #[.string R.sec,.slice A1 R.qs.length c1,.slice A2 R.hs.length c2,.slice A3 R.us.length c3] 27 (0,0)):=(hal5.block _ (Nat.lt_of_lt_of_le HLT.out HBB.out.size)).trans ((HBB.out.block _ HLT.out).trans HBX.out)
 have HSM:=Lib.hid (r56_Same R.sec R.qs R.hs R.us A1 A2 A3 D1 D2 D3 R.qs.length c1 R.hs.length c2 R.us.length c3 f1 f2 f3 (fun g=>g < w5.heap.size) _ rfl rfl rfl HLIM.out.1 HLIM.out.2.1 HLIM.out.2.2.1 HLIM.out.2.2.2 (HMa.out.mono (fun g hg=>Nat.lt_of_lt_of_le (Nat.lt_trans hg HLT.out) HBB.out.size)) HMb.out (fun g hg=>Nat.lt_trans hg hlt6))
 obtain ⟨w6,hw6⟩ : ∃ w6,w5.alloc (.cells #[.string R.sec,.slice D1 R.qs.length f1,.slice D2 R.hs.length f2,.slice D3 R.us.length f3] 27)=w6:=⟨_,rfl⟩
 rw [hw6] at HB6 hbx6 hbx4 HSM ⊢
 obtain ⟨b8,hb8⟩ : ∃ b,w5.heap.size=b:=⟨_,rfl⟩
 rw [hb8] at hbx6 ⊢
 clear hw6 hb8 hal5 hlt6 HMa HMb HM5 HM4 HM3
 have y0:=cell_of_row _ _ 0 _ _ _ hbx4
 have y1:=cell_of_row _ _ 1 _ _ _ hbx4
 have y2:=cell_of_row _ _ 2 _ _ _ hbx4
 have y3:=cell_of_row _ _ 3 _ _ _ hbx4
 have v0:=cell_of_row _ _ 0 _ _ _ hbx6
 have v1:=cell_of_row _ _ 1 _ _ _ hbx6
 have v2:=cell_of_row _ _ 2 _ _ _ hbx6
 have v3:=cell_of_row _ _ 3 _ _ _ hbx6
 clear hbx4 hbx6
 go_wp2_with (first
  | (go_at_call 9;(with_reducible refine HSM.out.mono ?_);rintro e w7 ⟨rfl,hb7⟩;have HB8:=Lib.hid (HB6.out.next hb7);clear hb7)
  | (go_at_call 6;(with_reducible refine (HAW.out _).mono ?_);rintro e w8 ⟨rfl,hb8⟩;have HB9:=Lib.hid (HB8.out.next hb8);clear hb8))
 refine bodyPost_ret (v:=.bool true) (by simp [results,Tryz.results3,go_sem]) rfl ?_
 exact ⟨rfl,HB9.out.bel⟩
theorem law56_Applies (sec : ByteArray) (qs : List Az) (hs : List Hz) (us : List Uz) (Aa Ah Au : Option Addr) (na ca nh ch nu cu : Nat) (s : ByteArray) (S : Nat→Prop) (w : World) (r : Nat) (hr : r≤140737488355328) (hba : ∀ x ∈ qs,BndA r x) (hbh : ∀ x ∈ hs,BndH r x) (hbu : ∀ x ∈ us,x.1.size≤r) (hwf : ∀ x ∈ us,(Lit.int .i64 x.2.1).wf=true) (hq : qs.length=na) (hn : hs.length=nh) (hu : us.length=nu) (h : WalM w S qs hs us Aa Ah Au) (hS : ∀ g,S g→g < w.heap.size) :
  Calls Tryz.prog 3 #[.agg #[.string sec,.slice Aa na ca,.slice Ah nh ch,.slice Au nu cu],.string s] w fun e w'=>e=.returned (.bool true)∧Below w.heap.size w w':=by
 cases hfw : fewB sec qs hs us with
 | false=>exact applies_many sec qs hs us Aa Ah Au na ca nh ch nu cu s S w r hr hba hbh hbu hwf hq hn hu h hS hfw
 | true =>
   by_cases hlg : 1500 < s.size
   · exact applies_long sec qs hs us Aa Ah Au na ca nh ch nu cu s S w r hr hba hbh hbu hwf hq hn hu h hS hfw hlg
   · exact applies_short sec qs hs us Aa Ah Au na ca nh ch nu cu s S w r hr hba hbh hbu hwf hq hn hu h hS hfw hlg
end Go.Proofs.YtjhlddlocpkhkaaGreat
namespace Go.Proofs.YtjhlddlocpkhkaaGreat
open Go.ChangeShapes Go.WideShapes Go.ChangeAt Go.WideElems Go.RowKit
set_option linter.unusedVariables false
set_option maxRecDepth 100000
set_option maxHeartbeats 4000000
theorem laidOutW : laidOutB Tryz.prog=true:=by kernel_rfl
theorem appliesLifted (os : Os) (started : os.Started) (H : Type) (enc : TypeId × Value→H) :
  ReturnsInHanded {} Tryz.checked os 3 .any (Rows.walletAppliesSpec.pre6 enc Tryz.prog Tryz.f3 Rows.walletAppliesRow.domain false) (Rows.walletAppliesSpec.post enc Tryz.prog Tryz.f3 false true false false):=by
 refine returnsInHanded_of_change_sized (C:=Tryz.checked) own started (by kernel_rfl) Tryz.func3
  (ChangeSpec.witness6 (enc:=enc) (C:=Tryz.checked) false ⟨#[],#[.agg #[.string ⟨#[]⟩,.slice none 0 0,.slice none 0 0,.slice none 0 0],.string ⟨#[]⟩],[]⟩ 8 (by kernel_rfl) (by kernel_rfl) (by kernel_rfl) (by kernel_rfl)) ?_
 intro W base args ds gs before hval0 hW hcnd hsz0 _
 have hval : ∀ (j : Nat) t v,Tryz.f3.params[j]?=some t→args[j]?=some v→Value.okWide Tryz.prog W .any base t v:=hval0
 have hW':=hW
 obtain ⟨p,q,hA0,hV,rfl,hfz,hnd⟩:=hW
 have hA : DataW.TrodAll enc Tryz.prog W 0 (fun _=>true) true Tryz.f3.params.toList args.toList ds p:=hA0
 rw [Tryz.params3] at hA hval hsz0
 obtain ⟨v0,v1,d0,d1,p0,p1,rfl,rfl,rfl,h0,h1⟩:=trodAll_two hA
 obtain ⟨rfl,rfl⟩:=trodVars_none hV
 have hsz : ∀ k ∈ DataW.weightsEach Tryz.prog [27,9] [d0,d1],k≤reachBytes:=fun k hk=>by
  have:=List.all_eq_true.1 hsz0 k hk
  simpa using this
 have hl0 : LeR Tryz.prog 27 d0:=fun k hk=>hsz k (weightsEach_mem _ _ 0 27 d0 rfl rfl k hk)
 have hl1 : LeR Tryz.prog 9 d1:=fun k hk=>hsz k (weightsEach_mem _ _ 1 9 d1 rfl rfl k hk)
 obtain ⟨sec,qs,hs,us,Aa,Ah,Au,na,ca,nh,ch,nu,cu,rfl,hq,hn,hu,hm,_,ba,bh,bu⟩:=open_wallet (hval 0 27 v0 rfl rfl) hl0 h0
 obtain ⟨s,rfl⟩:=okWide_string Tryz.underlying9 (hval 1 9 v1 rfl rfl)
 clear hA0 hval0 hsz0 hsz
 simp only [List.append_nil] at hW'
 refine (law56_Applies sec qs hs us Aa Ah Au na ca nh ch nu cu s (fun g=>g < W.heap.size) W 140737488351232 (by decide) ba bh (fun y hy=>(bu y hy).1) (fun y hy=>(bu y hy).2) hq hn hu hm (fun g hg=>hg)).mono fun e W' ⟨he,hb⟩=>?_
 subst he
 have hlt : ∀ y ∈ p0++p1,y.block < W.heap.size:=fun y hy=>hW'.lt y hy
 refine ⟨_,rfl,post_of_below (pa:=p0++p1) (pv:=[]) hW' (fun _ _ _=>(trodAll_cons_mk (shut_bool Tryz.underlying4 _) trodAll_mk0)) (fun sp hs=>?_) (fun _ _=>rfl) (by simp) hb (Go.RowKit.ok_one (by kernel_rfl) rfl (okWide_bool_mk Tryz.underlying4 _))⟩
 exact trodAll_mk2
  (WideElems.Trod_stays laidOutW (by kernel_rfl) (of_decide_eq_true (by kernel_rfl)) h0 (fun y hy=>hb.same (hlt y (by simp [hy]))) (fun y hy=>hs y (by simp [hy])))
  (WideElems.Trod_stays laidOutW (by kernel_rfl) (of_decide_eq_true (by kernel_rfl)) h1 (fun y hy=>hb.same (hlt y (by simp [hy]))) (fun y hy=>hs y (by simp [hy])))
theorem walletApplies_closed : joinedFacts Tryz.prog 3 Tryz.f3 Rows.walletAppliesSpec Rows.walletAppliesRow=true:=by kernel_rfl
theorem walletApplies_said : Rows.WalletAppliesSaid :=
 OpenClaim.holds_of_wide 3 Tryz.f3 rfl rfl rfl rfl rfl rfl rfl ⟨rfl,rfl,rfl,rfl,rfl⟩ rfl rfl rfl rfl rfl (by kernel_rfl) Tryz.func3 walletApplies_closed
  (of_decide_eq_true (by kernel_rfl)) (by unfold Func.isWrapper;first | (rw [if_pos (by decide +kernel)];kernel_rfl) | (rw [if_neg (by decide +kernel)];exact ⟨rfl,rfl⟩))
  (fun os started H enc _=>appliesLifted os started H enc)
#print axioms walletApplies_said
end Go.Proofs.YtjhlddlocpkhkaaGreat
