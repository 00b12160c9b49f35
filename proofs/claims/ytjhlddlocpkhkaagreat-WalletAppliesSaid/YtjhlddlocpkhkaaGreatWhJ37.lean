/- Wallet: Apply at an entry "secret", over its effect's contract. Wallet: wallets with one count at most; what the law's walks hold. Wallet: the law file's awake. -/
import Derived.Test.YtjhlddlocpkhkaaGreatWhJ36
import Derived.Test.YtjhlddlocpkhkaaGreatWhJ28
namespace Go.Proofs.YtjhlddlocpkhkaaGreat
open Go.RowKit
set_option maxRecDepth 100000
set_option linter.unusedVariables false
set_option maxHeartbeats 8000000
theorem apply_secret (sec : ByteArray) (qs : List Az) (hs : List Hz) (us : List Uz) (Aa Ah Au : Option Addr) (na ca nh ch nu cu : Nat) (S : Nat→Prop) (w : World) (hq : qs.length=na) (hn : hs.length=nh) (hu : us.length=nu) (ho : WalOk qs hs us) (hval : validW sec qs hs us=true) (h : WalM w S qs hs us Aa Ah Au) (hS : ∀ g,S g→g < w.heap.size)
  (s n0 t0 n1 : ByteArray) (l1 rest : Its) (hdec : decS s=.ok (2,n0,t0,.cons 1 n1 ⟨#[115,101,99,114,101,116]⟩ l1 rest)) (hrl : rest.len≤10000)
  (sec' : ByteArray) (qs' : List Az) (hs' : List Hz) (us' : List Uz)
  (heff : ∀ (W : World) (A : Option Addr) (c rb : Nat) (S1 S2 : Nat→Prop),rest.len≤c→RdI A rest.len c rb W→SlK W S1 A rest→(∀ g,S1 g→g < W.heap.size∧g≠rb)→WalM W S2 qs hs us Aa Ah Au→(∀ g,S2 g→g < W.heap.size∧g≠rb) →
   Calls Tryz.prog 20 #[.agg #[.string sec,.slice Aa na ca,.slice Ah nh ch,.slice Au nu cu],.pointer (some ⟨rb,0,none⟩)] W (EffGot W rb sec' qs' hs' us')) :
  Calls Tryz.prog 7 #[.agg #[.string sec,.slice Aa na ca,.slice Ah nh ch,.slice Au nu cu],.string s] w (ApGot w sec' qs' hs' us'):=by
 have hmf : ∀ (fn : Fn) (first cap : Array Value) (w : World),(Instr.makeFunc fn first cap).run Tryz.prog w=.ok (.func fn first cap) w:=fun _ _ _ _=>rfl
 have hmm:=@run_makeMap Tryz.prog
 have HV:=Lib.hid (fun W (hb : Below w.heap.size w W)=>wal_valid sec qs hs us Aa Ah Au na ca nh ch nu cu S W hq hn hu (by have:=ho.na;omega) (by have:=ho.nh;omega) (by have:=ho.nu;omega) ho.nonce ho.att ho.scope (h.keep (fun q hq=>hb.cell (hS _ hq))) (fun g hg=>Nat.lt_of_lt_of_le (hS g hg) hb.size))
 rw [hval] at HV
 have HD:=Lib.hid (fun W=>enc_Decode s _ W hdec)
 dsimp only at HD
 obtain ⟨m,hm⟩ : ∃ m,(Its.cons 1 n1 ⟨#[115,101,99,114,101,116]⟩ l1 rest).len=m:=⟨_,rfl⟩
 rw [hm] at HD
 have HM : Hid (rest.len+1=m):=Lib.hid hm
 clear hm
 have HSRC:=Lib.hid (fun W (hb : Below w.heap.size w W)=>h.keep (w':=W) (fun q hq=>hb.cell (hS _ hq)))
 have HS:=Lib.hid hS
 have HEFF:=Lib.hid heff
 have HRL:=Lib.hid hrl
 clear h hS ho hval hdec heff hq hn hu hrl
 obtain ⟨W3,hW3⟩ : ∃ W3,(((w.alloc (.cells #[.string sec,.slice Aa na ca,.slice Ah nh ch,.slice Au nu cu] 27)).alloc (.cells #[.string ⟨#[]⟩,.slice none 0 0,.slice none 0 0,.slice none 0 0] 27)).alloc (.cells #[.int .i64 0] 30))=W3:=⟨_,rfl⟩
 have hb3 : Below w.heap.size w W3:=by rw [← hW3];exact (((Below.refl _ _).alloc (Nat.le_refl _) _).alloc (by simp) _).alloc (by simp only [World.size_alloc];omega) _
 have hx3 : W3.heap[w.heap.size]?=some (.cells #[.string sec,.slice Aa na ca,.slice Ah nh ch,.slice Au nu cu] 27 (0,0))∧W3.heap[w.heap.size+1]?=some (.cells #[.string ⟨#[]⟩,.slice none 0 0,.slice none 0 0,.slice none 0 0] 27 (0,0))∧W3.heap[w.heap.size+1+1]?=some (.cells #[.int .i64 0] 30 (0,0)):=by
  rw [← hW3]
  have e2:=heap_alloc_new ((w.alloc (.cells #[.string sec,.slice Aa na ca,.slice Ah nh ch,.slice Au nu cu] 27)).alloc (.cells #[.string ⟨#[]⟩,.slice none 0 0,.slice none 0 0,.slice none 0 0] 27)) (.cells #[.int .i64 0] 30)
  simp only [World.size_alloc] at e2
  exact ⟨(Below.heap_alloc _ _ _ (by simp only [World.size_alloc];omega)).trans (two_boxes w _ _).1,(Below.heap_alloc _ _ _ (by simp only [World.size_alloc];omega)).trans (two_boxes w _ _).2,e2⟩
 have hz3 : W3.heap.size=w.heap.size+3:=by rw [← hW3];simp
 have H3:=Lib.hid (And.intro hb3 (And.intro hx3 hz3))
 rw [← hW3] at H3
 clear hb3 hx3 hz3 hW3
 go_enter_defers Tryz.func7,Tryz.ntmps7
 go_upto_region 4 with (first
  | (go_at_call 17;(with_reducible refine (HV.out _ H3.out.1).mono ?_);rintro e w4 ⟨rfl,hb4⟩;have HB4:=Lib.hid hb4;clear hb4)
  | (go_at_call 18;(with_reducible refine (HD.out _).mono ?_);rintro e w5 ⟨A5,c5,rfl,hc5,hsl5,hb5⟩;have HB5:=Lib.hid hb5;have HC5:=Lib.hid hc5;have HSL5:=Lib.hid hsl5;clear hb5 hc5 hsl5))
 have hap : ApB w S sec qs hs us Aa na ca Ah nh ch Au nu cu n0 t0 (.cons 1 n1 ⟨#[115,101,99,114,101,116]⟩ l1 rest) A5 m c5 w5.heap.size (w5.alloc (.cells #[.int .i64 2,.string n0,.string t0,.slice A5 m c5] 63)):=by
  have hz4:=HB4.out.size
  have hz5:=HB5.out.size
  have h3:=H3.out
  have hal : Below w5.heap.size w5 (w5.alloc (.cells #[.int .i64 2,.string n0,.string t0,.slice A5 m c5] 63)):=(Below.refl _ _).alloc (Nat.le_refl _) _
  have hb : Below (w.heap.size+3) _ (w5.alloc (.cells #[.int .i64 2,.string n0,.string t0,.slice A5 m c5] 63)):=(HB4.out.mono (by rw [h3.2.2];exact Nat.le_refl _)).trans ((HB5.out.mono (by omega)).trans (hal.mono (by omega)))
  have hbw:=h3.1.trans (hb.mono (by omega))
  exact ⟨(hb.block _ (by omega)).trans h3.2.1.1,(hb.block _ (by omega)).trans h3.2.1.2.1,(hb.block _ (by omega)).trans h3.2.1.2.2,heap_alloc_new w5 _,(HSL5.out.keep (fun p hp=>hal.cell hp.2)).mono (fun g hg=>⟨by have:=hg.1;omega,hg.2⟩),HSRC.out _ hbw,hbw,by omega,by simp⟩
 have HAP:=Lib.hid hap
 clear hap HB4 HB5 HSL5 H3 HV HD HSRC
 obtain ⟨b6,hb6⟩ : ∃ b,w5.heap.size=b:=⟨_,rfl⟩
 have hz6 : (w5.alloc (.cells #[.int .i64 2,.string n0,.string t0,.slice A5 m c5] 63)).heap.size=b6+1:=by rw [World.size_alloc,hb6]
 obtain ⟨w6,hw6⟩ : ∃ w6,w5.alloc (.cells #[.int .i64 2,.string n0,.string t0,.slice A5 m c5] 63)=w6:=⟨_,rfl⟩
 rw [hw6] at HAP hz6 ⊢
 rw [hb6] at HAP ⊢
 have HZ6:=Lib.hid hz6
 clear hw6 hb6 hz6
 obtain ⟨x0,x1,x2,x3⟩:=HAP.out.bc
 obtain ⟨i0,i1,i2,i3⟩:=HAP.out.ic
 go_upto_region 8 with fail
 have hal : Below (b6+1) w6 (w6.alloc (.cells #[.string sec,.slice Aa na ca,.slice Ah nh ch,.slice Au nu cu] 70)):=(Below.refl _ _).alloc (by rw [HZ6.out];exact Nat.le_refl _) _
 have HAP7:=Lib.hid (HAP.out.next HS.out hal)
 have hst : StB sec Aa na ca Ah nh ch Au nu cu (b6+1) (w6.alloc (.cells #[.string sec,.slice Aa na ca,.slice Ah nh ch,.slice Au nu cu] 70)):=by
  rw [← HZ6.out]
  exact heap_alloc_new w6 _
 have HST:=Lib.hid hst
 have hz7 : (w6.alloc (.cells #[.string sec,.slice Aa na ca,.slice Ah nh ch,.slice Au nu cu] 70)).heap.size=b6+2:=by rw [World.size_alloc,HZ6.out]
 have e6 : w6.heap.size=b6+1:=HZ6.out
 rw [e6]
 obtain ⟨w7,hw7⟩ : ∃ w7,w6.alloc (.cells #[.string sec,.slice Aa na ca,.slice Ah nh ch,.slice Au nu cu] 70)=w7:=⟨_,rfl⟩
 rw [hw7] at HAP7 HST hz7 ⊢
 have HZ7:=Lib.hid hz7
 clear hw7 hz7 hal hst e6 HAP x0 x1 x2 x3 i0 i1 i2 i3
 have HMB : Hid (MpB w S sec qs hs us Aa na ca Ah nh ch Au nu cu n0 t0 (.cons 1 n1 ⟨#[115,101,99,114,101,116]⟩ l1 rest) A5 m c5 b6 w7.heap.size 0 (.map []) (w7.alloc (.map #[] 0))):=Lib.hid (by
  have hal : Below w7.heap.size w7 (w7.alloc (.map #[] 0)):=(Below.refl _ _).alloc (Nat.le_refl _) _
  have hz:=HZ7.out
  exact ⟨HAP7.out.next HS.out (hal.mono (by omega)),(hal.block _ (by omega)).trans HST.out,FnMap.made w7,by omega,by simp⟩)
 clear HAP7 HST
 obtain ⟨s0,s1,s2,s3⟩:=HMB.out.st.cells
 go_upto_region 9 with (with_reducible refine wpl ?_;refine wpList_insert_fn _ rfl _ _ _ _ rfl _ Tryz.underlying72 w7.heap.size _ _ rfl HMB.out.fm (by decide) _ (by decide) _ rfl rfl ?_;intro w1 hfm1 hg1;replace HMB:=Lib.hid (HMB.out.put HS.out hfm1 hg1);clear s0 s1 s2 s3 hfm1 hg1;obtain ⟨s0,s1,s2,s3⟩:=HMB.out.st.cells)
 obtain ⟨i0,i1,i2,i3⟩:=HMB.out.ap.ic
 go_upto_region 10 with fail
 have hb10 : RdI A5 m c5 w1.heap.size (w1.alloc (.cells #[.slice A5 m c5] 75)):=heap_alloc_new w1 _
 have hal1 : Below w1.heap.size w1 (w1.alloc (.cells #[.slice A5 m c5] 75)):=(Below.refl _ _).alloc (Nat.le_refl _) _
 have HMB1:=Lib.hid (HMB.out.put HS.out (HMB.out.fm.kept (hal1.block _ HMB.out.size)) (gb_below hal1))
 have HTX:=Lib.hid (wal_text n1 ⟨#[115,101,99,114,101,116]⟩ l1 rest A5 m c5 w1.heap.size (fun g=>w.heap.size+3≤g∧g < b6) (w1.alloc (.cells #[.slice A5 m c5] 75)) HM.out (by have:=HM.out;have:=HRL.out;omega) HC5.out hb10 HMB1.out.ap.mem (fun g hg=>⟨by have:=HMB1.out.ap.size;have:=hg.2;omega,by have:=HMB.out.ap.size;have:=hg.2;omega⟩))
 clear hb10 hal1 s0 s1 s2 s3 i0 i1 i2 i3
 have hz10 : ∀ W : World,(zeroValue 71).run Tryz.prog W=.ok .nilFunc W:=fun W=>by kernel_rfl
 obtain ⟨b10,hb10⟩ : ∃ b,w1.heap.size=b:=⟨_,rfl⟩
 have hl10 : w7.heap.size < b10:=by have:=HMB.out.size;omega
 have hl6 : b6 < b10:=by have:=HMB.out.ap.size;omega
 have hz1 : (w1.alloc (.cells #[.slice A5 m c5] 75)).heap.size=b10+1:=by rw [World.size_alloc,hb10]
 have HL10:=Lib.hid (And.intro hl10 (And.intro hl6 hz1))
 clear hl10 hl6 hz1
 rw [hb10] at HTX
 rw [hb10]
 clear hb10
 go_upto_region 11 with (go_at_call 27;(with_reducible refine HTX.out.mono ?_);rintro o w9 ⟨A9,c9,rfl,h1,h2,h3,h4⟩;have HMB9:=Lib.hid (HMB1.out.ap.grown HS.out h4 HL10.out.2.1);have hlk:=(HMB1.out.fm.kept (h4.block _ HMB1.out.size (fun e=>by have:=HL10.out.1;injection e;omega))).look Tryz.underlying72 (hz10 w9) ⟨#[115,101,99,114,101,116]⟩ (by decide) (.func (.func 20) #[.agg #[.string sec,.slice Aa na ca,.slice Ah nh ch,.slice Au nu cu]] #[]) (by rfl) (by rfl);have HE9:=Lib.hid (HEFF.out w9 A9 c9 b10 _ S h1 h3 h2 (fun g hg=>⟨by have:=HMB9.out.size;have:=hg.2;omega,by have:=HL10.out.2.1;have:=hg.2;omega⟩) HMB9.out.src (fun g hg=>⟨Nat.lt_of_lt_of_le (HS.out g hg) HMB9.out.bel.size,by have:=HS.out g hg;have:=HL10.out.2.1;have:=HMB9.out.lo;omega⟩));have HG9:=Lib.hid h4;clear h1 h2 h3 h4)
 go_wp2_with (go_at_call 20;(with_reducible refine HE9.out.mono ?_);rintro o w10 ⟨B1,m1,d1,B2,m2,d2,B3,m3,d3,rfl,k1,k2,k3,hmem,hg10⟩;have HMA:=Lib.hid (HMB9.out.grown HS.out hg10 HL10.out.2.1);have HG10:=Lib.hid hg10;have HK:=Lib.hid (And.intro k1 (And.intro k2 k3));have HMM:=Lib.hid hmem;obtain ⟨⟨r0,r1,r2,r3⟩,⟨g0,g1,g2,g3⟩,r4,g4⟩:=HMA.out.rc;clear k1 k2 k3 hmem hg10)
 refine leaves_cons (f:=19) (args:=#[.pointer (some ⟨w.heap.size+1,0,none⟩),.pointer (some ⟨w.heap.size+1+1,0,none⟩)]) (by simp) (by simp [go_sem]) ?_
 obtain ⟨W,hW⟩ : ∃ W,(((((w10.setCell ⟨w.heap.size+1,0,none⟩ (.string sec')).setCell ⟨w.heap.size+1,1,none⟩ (.slice B1 m1 d1)).setCell ⟨w.heap.size+1,2,none⟩ (.slice B2 m2 d2)).setCell ⟨w.heap.size+1,3,none⟩ (.slice B3 m3 d3)).setCell ⟨w.heap.size+1+1,0,none⟩ (.int .i64 0))=W:=⟨_,rfl⟩
 have HF:=HMA.out.fin (B:=w9.heap.size) (by have:=HMB9.out.size;have:=HMB9.out.lo;omega) HMM.out (.string sec') (.slice B1 m1 d1) (.slice B2 m2 d2) (.slice B3 m3 d3) hW
 rw [hW]
 clear hW
 refine (apply_idle _ _ _).mono ?_
 rintro e u' w12 ⟨rfl,rfl,rfl⟩
 obtain ⟨⟨z0,z1,z2,z3⟩,z4,hm12,hb12⟩:=HF
 simp [Leaves,settle,results,Tryz.results7,go_sem,z0,z1,z2,z3,z4]
 exact ⟨B1,m1,d1,B2,m2,d2,B3,m3,d3,rfl,HK.out.1,HK.out.2.1,HK.out.2.2,hm12,hb12⟩
theorem isU_same (sc : ByteArray) (z c : Int) : isU sc z (sc,z,c)=true:=by unfold isU;simp
theorem isU_off (sc sc' : ByteArray) (z z' c : Int) (h : z'≠z) : isU sc z (sc',z',c)=false:=by unfold isU;simp [h]
theorem cnt_one (sc : ByteArray) (z c : Int) : cntU (isU sc z) [(sc,z,c)]=c:=by unfold cntU;simp [List.find?,isU_same]
theorem cnt_not {f : Uz→Bool} {u : Uz} (h : f u=false) : cntU f [u]=0:=by unfold cntU;simp [List.find?,h]
theorem put_one (sc : ByteArray) (z c c' : Int) : putU (sc,z,c') [(sc,z,c)]=[(sc,z,c')]:=by unfold putU;simp [isU_same]
theorem val_nil {sec : ByteArray} (h : valid sec=true) : validW sec [] [] []=true:=by
 unfold validW
 simp [validA,validU,h]
theorem val_one {sec : ByteArray} {sc : ByteArray} {z c : Int} (h : valid sec=true) (hc : 1≤c) : validW sec [] [] [(sc,z,c)]=true:=by
 unfold validW
 have : ¬ c < 1:=by omega
 simp [validA,validU,h,this]
theorem ok_nil : WalOk [] [] []:=⟨by decide,by decide,by decide,by simp,by simp,by simp⟩
theorem ok_one {sc : ByteArray} {z c : Int} (h : sc.size≤100000) (hz : (Lit.int .i64 z).wf=true) : WalOk [] [] [(sc,z,c)]:=⟨by decide,by decide,show 1 < 4096 by decide,by simp,by simp,by simp [h,hz]⟩
structure AwB (w : World) (sec : ByteArray) (A1 : Option Addr) (n1 c1 : Nat) (A2 : Option Addr) (n2 c2 : Nat) (A3 : Option Addr) (n3 c3 : Nat) (us : List Uz) (b1 : Nat) (wx : World) : Prop where
 box : wx.heap[b1]?=some (.cells #[.string sec,.slice A1 n1 c1,.slice A2 n2 c2,.slice A3 n3 c3] 27 (0,0))
 mem : WalM wx (fun g=>w.heap.size≤g∧g < wx.heap.size∧g≠b1) [] [] us A1 A2 A3
 l1 : n1=0
 l2 : n2=0
 l3 : n3=us.length
 bel : Below w.heap.size w wx
 lo : w.heap.size≤b1
 lt : b1 < wx.heap.size
section
variable {w wx w' : World} {sec : ByteArray} {A1 A2 A3 : Option Addr} {n1 n2 n3 c1 c2 c3 : Nat} {us : List Uz} {b1 : Nat}
theorem AwB.next (h : AwB w sec A1 n1 c1 A2 n2 c2 A3 n3 c3 us b1 wx) (hb : Below wx.heap.size wx w') : AwB w sec A1 n1 c1 A2 n2 c2 A3 n3 c3 us b1 w' :=
 ⟨(hb.block _ h.lt).trans h.box,(h.mem.keep (fun p hp=>hb.cell hp.2.1)).mono (fun g hg=>⟨hg.1,Nat.lt_of_lt_of_le hg.2.1 hb.size,hg.2.2⟩),h.l1,h.l2,h.l3,below2 h.bel hb,h.lo,Nat.lt_of_lt_of_le h.lt hb.size⟩
theorem AwB.alloc (h : AwB w sec A1 n1 c1 A2 n2 c2 A3 n3 c3 us b1 wx) (o : Obj) : AwB w sec A1 n1 c1 A2 n2 c2 A3 n3 c3 us b1 (wx.alloc o):=h.next ((Below.refl _ _).alloc (Nat.le_refl _) _)
theorem AwB.bc (h : AwB w sec A1 n1 c1 A2 n2 c2 A3 n3 c3 us b1 wx) : (wx.cell? ⟨b1,0,none⟩=some (.string sec)∧wx.cell? ⟨b1,1,none⟩=some (.slice A1 n1 c1)∧wx.cell? ⟨b1,2,none⟩=some (.slice A2 n2 c2)∧wx.cell? ⟨b1,3,none⟩=some (.slice A3 n3 c3))∧(wx.frozen? ⟨b1,0,none⟩=false∧wx.frozen? ⟨b1,1,none⟩=false∧wx.frozen? ⟨b1,2,none⟩=false∧wx.frozen? ⟨b1,3,none⟩=false) :=
 ⟨⟨cell_of_row wx _ 0 _ _ _ h.box,cell_of_row wx _ 1 _ _ _ h.box,cell_of_row wx _ 2 _ _ _ h.box,cell_of_row wx _ 3 _ _ _ h.box⟩,frozen_of_row wx _ 0 _ _ h.box,frozen_of_row wx _ 1 _ _ h.box,frozen_of_row wx _ 2 _ _ h.box,frozen_of_row wx _ 3 _ _ h.box⟩
theorem AwB.start {W : World} (hb : Below w.heap.size w W) (l1 : n1=0) (l2 : n2=0) (l3 : n3=us.length) (hm : WalM W (fun g=>w.heap.size≤g∧g < W.heap.size) [] [] us A1 A2 A3) :
  AwB w sec A1 n1 c1 A2 n2 c2 A3 n3 c3 us W.heap.size (W.alloc (.cells #[.string sec,.slice A1 n1 c1,.slice A2 n2 c2,.slice A3 n3 c3] 27)) :=
 have hal : Below W.heap.size W (W.alloc (.cells #[.string sec,.slice A1 n1 c1,.slice A2 n2 c2,.slice A3 n3 c3] 27)):=(Below.refl _ _).alloc (Nat.le_refl _) _
 ⟨heap_alloc_new W _,(hm.keep (fun p hp=>hal.cell hp.2)).mono (fun g hg=>⟨hg.1,by simp;have:=hg.2;omega,by have:=hg.2;omega⟩),l1,l2,l3,below2 hb hal,hb.size,by simp⟩
theorem AwB.put {B1 B2 B3 : Option Addr} {m1 m2 m3 d1 d2 d3 : Nat} {us' : List Uz} (h : AwB w sec A1 n1 c1 A2 n2 c2 A3 n3 c3 us b1 wx) {S : Nat→Prop} (hm : WalM wx S [] [] us' B1 B2 B3) (hS : ∀ g,S g→w.heap.size≤g∧g < wx.heap.size∧g≠b1) (l1 : m1=0) (l2 : m2=0) (l3 : m3=us'.length) :
  AwB w sec B1 m1 d1 B2 m2 d2 B3 m3 d3 us' b1 ((((wx.setCell ⟨b1,0,none⟩ (.string sec)).setCell ⟨b1,1,none⟩ (.slice B1 m1 d1)).setCell ⟨b1,2,none⟩ (.slice B2 m2 d2)).setCell ⟨b1,3,none⟩ (.slice B3 m3 d3)):=by
 have hlo:=h.lo
 have o : ∀ g,g≠b1→((((wx.setCell ⟨b1,0,none⟩ (.string sec)).setCell ⟨b1,1,none⟩ (.slice B1 m1 d1)).setCell ⟨b1,2,none⟩ (.slice B2 m2 d2)).setCell ⟨b1,3,none⟩ (.slice B3 m3 d3)).heap[g]?=wx.heap[g]?:=fun g hg=>by
  rw [heap_setCell_other _ _ _ _ hg,heap_setCell_other _ _ _ _ hg,heap_setCell_other _ _ _ _ hg,heap_setCell_other _ _ _ _ hg]
 have e0:=heap_setCell_same wx b1 0 _ _ (.string sec) h.box
 have e1:=heap_setCell_same _ b1 1 _ _ (.slice B1 m1 d1) e0
 have e2:=heap_setCell_same _ b1 2 _ _ (.slice B2 m2 d2) e1
 have e3:=heap_setCell_same _ b1 3 _ _ (.slice B3 m3 d3) e2
 refine ⟨e3,(hm.keep (fun p hp=>World.cell?_of_block (o _ (hS _ hp).2.2))).mono (fun g hg=>?_),l1,l2,l3,(((h.bel.setCell (p:=⟨b1,0,none⟩) hlo _).setCell (p:=⟨b1,1,none⟩) hlo _).setCell (p:=⟨b1,2,none⟩) hlo _).setCell (p:=⟨b1,3,none⟩) hlo _,h.lo,by simpa using h.lt⟩
 have:=hS g hg
 exact ⟨this.1,by simpa using this.2.1,this.2.2⟩
end
def UsGot (W : World) (sec : ByteArray) (n : Int) (us : List Uz) (o : Ending) (w' : World) : Prop :=
 ∃ A1 n1 c1 A2 n2 c2 A3 n3 c3 s,o=.returned (.tuple #[.agg #[.string sec,.slice A1 n1 c1,.slice A2 n2 c2,.slice A3 n3 c3],.int .i64 n,.string s,.int .i64 0])∧n1=0∧n2=0∧n3=us.length∧WalM w' (fun g=>W.heap.size≤g∧g < w'.heap.size) [] [] us A1 A2 A3∧Below W.heap.size W w'
theorem AwB.use {w wx : World} {sec : ByteArray} {A1 A2 A3 : Option Addr} {n1 n2 n3 c1 c2 c3 : Nat} {us : List Uz} {b1 : Nat} (h : AwB w sec A1 n1 c1 A2 n2 c2 A3 n3 c3 us b1 wx) (sc : ByteArray) (z lim n : Int) (us' : List Uz) (ho : WalOk [] [] us) (hv : validW sec [] [] us=true) (hcn : cntU (isU sc z) us=n) (hp : putU (sc,z,n+1) us=us') (h0 : 0≤n) (hl : n < lim) (hl2 : lim≤9223372036854775807) (hz : -9223372036854775808≤z∧z≤9223372036854775807) (hsc : sc.size≤50000) :
  Calls Tryz.prog 16 #[.agg #[.string sec,.slice A1 n1 c1,.slice A2 n2 c2,.slice A3 n3 c3],.string sc,.int .i64 z,.int .i64 lim] wx (UsGot wx sec n us'):=by
 subst hcn hp
 refine (wal_Use_ok sec [] [] us A1 A2 A3 n1 c1 n2 c2 n3 c3 sc z lim _ wx h.l1.symm h.l2.symm h.l3.symm ho hv h0 hl hl2 hz hsc h.mem (fun g hg=>hg.2.1)).mono ?_
 rintro e w' ⟨B1,d1,B2,d2,B3,m3,d3,rfl,hm3,hm,hb⟩
 exact ⟨B1,n1,d1,B2,n2,d2,B3,m3,d3,_,rfl,h.l1,h.l2,hm3,hm,hb⟩
theorem AwB.lim {w wx : World} {sec : ByteArray} {A1 A2 A3 : Option Addr} {n1 n2 n3 c1 c2 c3 : Nat} {us : List Uz} {b1 : Nat} (h : AwB w sec A1 n1 c1 A2 n2 c2 A3 n3 c3 us b1 wx) (sc : ByteArray) (z lim : Int) (ho : WalOk [] [] us) (hv : validW sec [] [] us=true) (hl : lim≤cntU (isU sc z) us) :
  Calls Tryz.prog 16 #[.agg #[.string sec,.slice A1 n1 c1,.slice A2 n2 c2,.slice A3 n3 c3],.string sc,.int .i64 z,.int .i64 lim] wx fun e w'=>e=.returned (.tuple #[.agg #[.string ⟨#[]⟩,.slice none 0 0,.slice none 0 0,.slice none 0 0],.int .i64 0,.string ⟨#[]⟩,.int .i64 24])∧Below wx.heap.size wx w' :=
 wal_Use_lim sec [] [] us A1 A2 A3 n1 c1 n2 c2 n3 c3 sc z lim _ wx h.l1.symm h.l2.symm h.l3.symm ho hv hl h.mem (fun g hg=>hg.2.1)
theorem lit_dec : decS ⟨#[2,11,1,6,115,101,99,114,101,116,0,1,5]⟩=.ok (2,⟨#[]⟩,⟨#[]⟩,.cons 1 ⟨#[]⟩ ⟨#[115,101,99,114,101,116]⟩ .nil (.cons 0 ⟨#[5]⟩ ⟨#[]⟩ .nil .nil)):=by
 have h2 : (encS (2,⟨#[]⟩,⟨#[]⟩,.cons 1 ⟨#[]⟩ ⟨#[115,101,99,114,101,116]⟩ .nil (.cons 0 ⟨#[5]⟩ ⟨#[]⟩ .nil .nil))).2=0:=by decide +kernel
 have h1 : (encS (2,⟨#[]⟩,⟨#[]⟩,.cons 1 ⟨#[]⟩ ⟨#[115,101,99,114,101,116]⟩ .nil (.cons 0 ⟨#[5]⟩ ⟨#[]⟩ .nil .nil))).1=⟨#[2,11,1,6,115,101,99,114,101,116,0,1,5]⟩:=by decide +kernel
 have:=dec_enc h2
 rwa [h1] at this
theorem lit_apply (w : World) : Calls Tryz.prog 7 #[.agg #[.string ⟨#[]⟩,.slice none 0 0,.slice none 0 0,.slice none 0 0],.string ⟨#[2,11,1,6,115,101,99,114,101,116,0,1,5]⟩] w (ApGot w ⟨#[5]⟩ [] [] []) :=
 apply_secret ⟨#[]⟩ [] [] [] none none none 0 0 0 0 0 0 (fun _=>False) w rfl rfl rfl ok_nil (val_nil (by decide)) WalM.nil_ (fun g hg=>hg.elim) _ _ _ _ _ _ lit_dec (by decide) ⟨#[5]⟩ [] [] [] (fun W A c rb S1 S2 hc hb hsl hS _ _=>wal_secret ⟨#[]⟩ none none none 0 0 0 0 0 0 ⟨#[5]⟩ ⟨#[]⟩ .nil A c rb S1 W hc hb hsl hS)
theorem law56_awake (w : World) : Calls Tryz.prog 6 #[] w fun e w'=>e=.returned (.bool true)∧Below w.heap.size w w':=by
 have HAP:=Lib.hid (fun W=>lit_apply W)
 have hv5 : valid ⟨#[5]⟩=true:=by decide
 have HV:=Lib.hid hv5
 clear hv5
 go_enter Tryz.func6, Tryz.ntmps6
 go_upto_region 2 with (go_at_call 7;(with_reducible refine (HAP.out _).mono ?_);rintro e w1 ⟨A1,n1,c1,A2,n2,c2,A3,n3,c3,rfl,l1,l2,l3,hm,hb⟩;have HB1:=Lib.hid (AwB.start (sec:=⟨#[5]⟩) (us:=[]) (c1:=c1) (c2:=c2) (c3:=c3) hb l1 l2 l3 hm);clear hm hb l1 l2 l3)
 obtain ⟨b1,hb1⟩ : ∃ b,w1.heap.size=b:=⟨_,rfl⟩
 obtain ⟨w2,hw2⟩ : ∃ w2,w1.alloc (.cells #[.string ⟨#[5]⟩,.slice A1 n1 c1,.slice A2 n2 c2,.slice A3 n3 c3] 27)=w2:=⟨_,rfl⟩
 rw [hw2] at HB1 ⊢
 rw [hb1] at HB1 ⊢
 clear hw2 hb1
 obtain ⟨⟨x0,x1,x2,x3⟩,y0,y1,y2,y3⟩:=HB1.out.bc
 have HU1:=Lib.hid (HB1.out.use ⟨#[115]⟩ 1 2 0 [(⟨#[115]⟩,1,1)] ok_nil (val_nil HV.out) rfl rfl (by decide) (by decide) (by decide) (by decide) (by decide))
 go_upto_region 3 with (go_at_call 16;(with_reducible refine HU1.out.mono ?_);rintro e w3 ⟨B1,m1,d1,B2,m2,d2,B3,m3,d3,s3,rfl,l1,l2,l3,hm,hb⟩;have HB2:=Lib.hid ((HB1.out.next hb).put (d1:=d1) (d2:=d2) (d3:=d3) hm (fun g hg=>⟨Nat.le_trans HB1.out.bel.size hg.1,hg.2,by have:=HB1.out.lt;have:=hg.1;omega⟩) l1 l2 l3);obtain ⟨⟨x0,x1,x2,x3⟩,y0,y1,y2,y3⟩:=(HB1.out.next hb).bc;clear hm hb l1 l2 l3)
 clear x0 x1 x2 x3 y0 y1 y2 y3
 obtain ⟨w4,hw4⟩ : ∃ w4,((((w3.setCell ⟨b1,0,none⟩ (.string ⟨#[5]⟩)).setCell ⟨b1,1,none⟩ (.slice B1 m1 d1)).setCell ⟨b1,2,none⟩ (.slice B2 m2 d2)).setCell ⟨b1,3,none⟩ (.slice B3 m3 d3))=w4:=⟨_,rfl⟩
 rw [hw4] at HB2 ⊢
 clear hw4
 obtain ⟨⟨x0,x1,x2,x3⟩,y0,y1,y2,y3⟩:=HB2.out.bc
 have HU2:=Lib.hid (HB2.out.use ⟨#[115]⟩ 1 2 1 [(⟨#[115]⟩,1,2)] (ok_one (by decide) (by decide)) (val_one HV.out (by decide)) (cnt_one _ _ _) (put_one _ _ _ _) (by decide) (by decide) (by decide) (by decide) (by decide))
 go_upto_region 4 with (go_at_call 16;(with_reducible refine HU2.out.mono ?_);rintro e w5 ⟨C1,o1,e1,C2,o2,e2,C3,o3,e3,s5,rfl,l1,l2,l3,hm,hb⟩;have HB3:=Lib.hid ((HB2.out.next hb).put (d1:=e1) (d2:=e2) (d3:=e3) hm (fun g hg=>⟨Nat.le_trans HB2.out.bel.size hg.1,hg.2,by have:=HB2.out.lt;have:=hg.1;omega⟩) l1 l2 l3);obtain ⟨⟨x0,x1,x2,x3⟩,y0,y1,y2,y3⟩:=(HB2.out.next hb).bc;clear hm hb l1 l2 l3)
 clear x0 x1 x2 x3 y0 y1 y2 y3
 obtain ⟨w6,hw6⟩ : ∃ w6,((((w5.setCell ⟨b1,0,none⟩ (.string ⟨#[5]⟩)).setCell ⟨b1,1,none⟩ (.slice C1 o1 e1)).setCell ⟨b1,2,none⟩ (.slice C2 o2 e2)).setCell ⟨b1,3,none⟩ (.slice C3 o3 e3))=w6:=⟨_,rfl⟩
 rw [hw6] at HB3 ⊢
 clear hw6
 obtain ⟨⟨x0,x1,x2,x3⟩,y0,y1,y2,y3⟩:=HB3.out.bc
 have HU3:=Lib.hid (HB3.out.lim ⟨#[115]⟩ 1 2 (ok_one (by decide) (by decide)) (val_one HV.out (by decide)) (by rw [cnt_one];decide))
 go_upto_region 5 with (go_at_call 16;(with_reducible refine HU3.out.mono ?_);rintro e w7 ⟨rfl,hb⟩;have HB4:=Lib.hid ((HB3.out.next hb).alloc (.cells #[.string ⟨#[]⟩,.slice none 0 0,.slice none 0 0,.slice none 0 0] 27));clear hb)
 clear x0 x1 x2 x3 y0 y1 y2 y3
 obtain ⟨w8,hw8⟩ : ∃ w8,w7.alloc (.cells #[.string ⟨#[]⟩,.slice none 0 0,.slice none 0 0,.slice none 0 0] 27)=w8:=⟨_,rfl⟩
 rw [hw8] at HB4 ⊢
 clear hw8
 obtain ⟨⟨x0,x1,x2,x3⟩,y0,y1,y2,y3⟩:=HB4.out.bc
 have HU4:=Lib.hid (HB4.out.use ⟨#[115]⟩ 2 2 0 [(⟨#[115]⟩,1,2),(⟨#[115]⟩,2,1)] (ok_one (by decide) (by decide)) (val_one HV.out (by decide)) (cnt_not (isU_off _ _ _ _ _ (by decide))) (by unfold putU;rw [isU_off _ _ _ _ _ (by decide)];rfl) (by decide) (by decide) (by decide) (by decide) (by decide))
 go_upto_region 6 with (go_at_call 16;(with_reducible refine HU4.out.mono ?_);rintro e w9 ⟨D1,q1,f1,D2,q2,f2,D3,q3,f3,s9,rfl,l1,l2,l3,hm,hb⟩;have HB5:=Lib.hid ((HB4.out.next hb).alloc (.cells #[.string ⟨#[5]⟩,.slice D1 q1 f1,.slice D2 q2 f2,.slice D3 q3 f3] 27));clear hm hb l1 l2 l3)
 clear x0 x1 x2 x3 y0 y1 y2 y3
 obtain ⟨w10,hw10⟩ : ∃ w10,w9.alloc (.cells #[.string ⟨#[5]⟩,.slice D1 q1 f1,.slice D2 q2 f2,.slice D3 q3 f3] 27)=w10:=⟨_,rfl⟩
 rw [hw10] at HB5 ⊢
 clear hw10
 obtain ⟨⟨x0,x1,x2,x3⟩,y0,y1,y2,y3⟩:=HB5.out.bc
 go_wp2_with fail
 go_ret
 exact ⟨rfl,HB5.out.bel⟩
end Go.Proofs.YtjhlddlocpkhkaaGreat
