/- Encoding: Read and Decode where they read nothing: the panic is recovered, the error is handed back. Wallet: Apply's deferred call where it recovers; what Apply hands back, as a record. Printed by genApn.py. Wallet: Apply at every entry. Printed by genApn.py. The reference's Apply: wallets and entries that are not valid. Printed by genArl.py. The reference's Apply: the reader's calls, inside it. The reference's Apply: no effect; secret. Printed by genArn.py. -/
import Derived.Test.YtjhlddlocpkhkaaGreatWhJ42
import Derived.Test.YtjhlddlocpkhkaaGreatWhJ41
import Derived.Test.YtjhlddlocpkhkaaGreatWhJ36
import Derived.Test.YtjhlddlocpkhkaaGreatWhJ40
namespace Go.Proofs.YtjhlddlocpkhkaaGreat
open Go.RowKit
set_option maxRecDepth 100000
set_option linter.unusedVariables false
set_option maxHeartbeats 8000000
theorem neq_some (t : TypeId) (v : Value) (w : World) : (binOp .neq 20 (.iface t v) .nilIface).run Tryz.prog w=.ok (.bool true) w:=by
 have h : ∀ d : Nat,(Op.equalIn (d+1) 20 (.iface t v) .nilIface).run Tryz.prog w=.ok false w:=fun d=>by
  simp [Op.equalIn,run_underlying Tryz.underlying20]
 simp only [binOp]
 simp [Op.equal,Op.maxDepth,h 9999]
theorem is_errno (z : Int) (w : World) : (Instr.typeAssert (.iface 30 (.int .i64 z)) 20 30 true).run Tryz.prog w=.ok (.tuple #[.int .i64 z,.bool true]) w:=by kernel_rfl
structure Rd3 (b : Nat) (w : World) : Prop where
 it : w.heap[b]?=some (.cells #[.int .i64 0,.string ⟨#[]⟩,.string ⟨#[]⟩,.slice none 0 0] 63 (0,0))
 num : w.heap[b+1]?=some (.cells #[.int .i64 0] 3 (0,0))
 err : w.heap[b+1+1]?=some (.cells #[.int .i64 0] 30 (0,0))
theorem read_catch (b : Nat) (z : Int) (older : List PanicEntry) (w : World) (h : Rd3 b w) :
  CallsD Tryz.prog 91 #[.pointer (some ⟨b,0,none⟩),.pointer (some ⟨b+1,0,none⟩),.pointer (some ⟨b+1+1,0,none⟩)] (.panicking ({ v:=.iface 30 (.int .i64 z),recovered:=false }::older)) w fun e u' w' =>
   e=.returned (.tuple #[])∧u'=.panicking ({ v:=.iface 30 (.int .i64 z),recovered:=true }::older) ∧
   w'=(((((w.setCell ⟨b,0,none⟩ (.int .i64 0)).setCell ⟨b,1,none⟩ (.string ⟨#[]⟩)).setCell ⟨b,2,none⟩ (.string ⟨#[]⟩)).setCell ⟨b,3,none⟩ (.slice none 0 0)).setCell ⟨b+1,0,none⟩ (.int .i64 0)).setCell ⟨b+1+1,0,none⟩ (.int .i64 z):=by
 have hnn:=neq_some 30 (.int .i64 z)
 have hta:=is_errno z
 have x0:=cell_of_row w _ 0 _ _ _ h.it
 have x1:=cell_of_row w _ 1 _ _ _ h.it
 have x2:=cell_of_row w _ 2 _ _ _ h.it
 have x3:=cell_of_row w _ 3 _ _ _ h.it
 have y0:=cell_of_row w _ 0 _ _ _ h.num
 have z0:=cell_of_row w _ 0 _ _ _ h.err
 have f0:=frozen_of_row w _ 0 _ _ h.it
 have f1:=frozen_of_row w _ 1 _ _ h.it
 have f2:=frozen_of_row w _ 2 _ _ h.it
 have f3:=frozen_of_row w _ 3 _ _ h.it
 have g0:=frozen_of_row w _ 0 _ _ h.num
 have k0:=frozen_of_row w _ 0 _ _ h.err
 clear h
 refine callsD_of_wpS Tryz.func91 rfl fun c₀ cs hu=>?_
 apply wpS_seq
 apply wpS_region
 simp [wpOpsS,go_sem,recoverD,hu,Tryz.ntmps91,Exit.thenS]
 apply wpS_seq
 apply wpS_region
 simp [wpOpsS,go_sem,recoverD,hnn,Exit.thenS]
 refine wpS_cond (t:=true) (by simp [Act.eval,Array.replicate]) ?_
 simp only [if_true]
 apply wpS_seq
 apply wpS_region
 simp [wpOpsS,go_sem,hta,Exit.thenS]
 apply wpS_seq
 apply wpS_seq
 apply wpS_region
 simp [wpOpsS,go_sem,Exit.thenS]
 refine wpS_cond (t:=false) (by simp [Act.eval,Array.replicate]) ?_
 simp only [Bool.false_eq_true,if_false]
 refine wpS_of_wp (wp_skip ?_)
 simp only [Exit.thenS]
 apply wpS_region
 simp [wpOpsS,go_sem,x0,x1,x2,x3,y0,z0,f0,f1,f2,f3,g0,k0,bodyPostS,results,Tryz.results91]
theorem Rd3.fin {b : Nat} {z : Int} {w W : World} (h : Rd3 b w) (hW : (((((w.setCell ⟨b,0,none⟩ (.int .i64 0)).setCell ⟨b,1,none⟩ (.string ⟨#[]⟩)).setCell ⟨b,2,none⟩ (.string ⟨#[]⟩)).setCell ⟨b,3,none⟩ (.slice none 0 0)).setCell ⟨b+1,0,none⟩ (.int .i64 0)).setCell ⟨b+1+1,0,none⟩ (.int .i64 z)=W) :
  (W.cell? ⟨b,0,none⟩=some (.int .i64 0)∧W.cell? ⟨b,1,none⟩=some (.string ⟨#[]⟩)∧W.cell? ⟨b,2,none⟩=some (.string ⟨#[]⟩)∧W.cell? ⟨b,3,none⟩=some (.slice none 0 0))∧W.cell? ⟨b+1,0,none⟩=some (.int .i64 0)∧W.cell? ⟨b+1+1,0,none⟩=some (.int .i64 z)∧∀ lo,lo≤b→∀ w0,Below lo w0 w→Below lo w0 W:=by
 subst hW
 have n1 : b≠b+1:=by omega
 have n2 : b≠b+1+1:=by omega
 have n3 : b+1≠b:=by omega
 have n4 : b+1≠b+1+1:=by omega
 have n5 : b+1+1≠b:=by omega
 have n6 : b+1+1≠b+1:=by omega
 have e0:=heap_setCell_same w b 0 _ _ (.int .i64 0) h.it
 have e1:=heap_setCell_same _ b 1 _ _ (.string ⟨#[]⟩) e0
 have e2:=heap_setCell_same _ b 2 _ _ (.string ⟨#[]⟩) e1
 have e3:=heap_setCell_same _ b 3 _ _ (.slice none 0 0) e2
 have e4:=(heap_setCell_other _ ⟨b+1,0,none⟩ _ (.int .i64 0) n1).trans e3
 have e5:=(heap_setCell_other _ ⟨b+1+1,0,none⟩ _ (.int .i64 z) n2).trans e4
 have d0 : (((((w.setCell ⟨b,0,none⟩ (.int .i64 0)).setCell ⟨b,1,none⟩ (.string ⟨#[]⟩)).setCell ⟨b,2,none⟩ (.string ⟨#[]⟩)).setCell ⟨b,3,none⟩ (.slice none 0 0))).heap[b+1]?=some (.cells #[.int .i64 0] 3 (0,0)):=by
  rw [heap_setCell_other _ _ _ _ n3,heap_setCell_other _ _ _ _ n3,heap_setCell_other _ _ _ _ n3,heap_setCell_other _ _ _ _ n3]
  exact h.num
 have d1:=heap_setCell_same _ (b+1) 0 _ _ (.int .i64 0) d0
 have d2:=(heap_setCell_other _ ⟨b+1+1,0,none⟩ _ (.int .i64 z) n4).trans d1
 have k0 : ((((((w.setCell ⟨b,0,none⟩ (.int .i64 0)).setCell ⟨b,1,none⟩ (.string ⟨#[]⟩)).setCell ⟨b,2,none⟩ (.string ⟨#[]⟩)).setCell ⟨b,3,none⟩ (.slice none 0 0))).setCell ⟨b+1,0,none⟩ (.int .i64 0)).heap[b+1+1]?=some (.cells #[.int .i64 0] 30 (0,0)):=by
  rw [heap_setCell_other _ _ _ _ n6,heap_setCell_other _ _ _ _ n5,heap_setCell_other _ _ _ _ n5,heap_setCell_other _ _ _ _ n5,heap_setCell_other _ _ _ _ n5]
  exact h.err
 have k1:=heap_setCell_same _ (b+1+1) 0 _ _ (.int .i64 z) k0
 refine ⟨⟨cell_of_row _ _ 0 _ _ _ e5,cell_of_row _ _ 1 _ _ _ e5,cell_of_row _ _ 2 _ _ _ e5,cell_of_row _ _ 3 _ _ _ e5⟩,cell_of_row _ _ 0 _ _ _ d2,cell_of_row _ _ 0 _ _ _ k1,fun lo hlo w0 hb=>?_⟩
 exact (((((hb.setCell (p:=⟨b,0,none⟩) hlo _).setCell (p:=⟨b,1,none⟩) hlo _).setCell (p:=⟨b,2,none⟩) hlo _).setCell (p:=⟨b,3,none⟩) hlo _).setCell (p:=⟨b+1,0,none⟩) (Nat.le_succ_of_le hlo) _).setCell (p:=⟨b+1+1,0,none⟩) (Nat.le_succ_of_le (Nat.le_succ_of_le hlo)) _
def RdErr (w : World) (z : Int) (o : Ending) (w' : World) : Prop:=o=.returned (.tuple #[.agg #[.int .i64 0,.string ⟨#[]⟩,.string ⟨#[]⟩,.slice none 0 0],.int .i64 0,.int .i64 z])∧Below w.heap.size w w'
theorem enc_ReadF (s : ByteArray) (z : Int) (w : World) (hs : s.size≤65536) (h : rdO 0 s.data.toList=.err z) :
  Calls Tryz.prog 57 #[.string s] w (RdErr w z):=by
 have hmf : ∀ (fn : Fn) (first cap : Array Value) (w : World),(Instr.makeFunc fn first cap).run Tryz.prog w=.ok (.func fn first cap) w:=fun _ _ _ _=>rfl
 have HI:=Lib.hid (fun W (hr : RdB s 0 (w.heap.size+1+1+1) W)=>enc_itemF s.size s 0 s.size 0 (w.heap.size+1+1+1) z W (by omega) (Nat.le_refl _) hs (by omega) (by rw [seg_all];exact h) hr)
 rw [show ((0 : Nat) : Int)=0 from rfl] at HI
 have HS:=Lib.hid (RdAt.start (w:=w) (s:=s))
 have d1 : decide ((65536 : Int) < (s.size : Int))=false:=decide_eq_false (by omega)
 have d2 : decide (65536 < s.size)=false:=decide_eq_false (by omega)
 clear h
 go_enter_defers Tryz.func57,Tryz.ntmps57
 go_upto_region 5 with fail
 obtain ⟨w4,hw4⟩ : ∃ w4,((((w.alloc (.cells #[.int .i64 0,.string ⟨#[]⟩,.string ⟨#[]⟩,.slice none 0 0] 63)).alloc (.cells #[.int .i64 0] 3)).alloc (.cells #[.int .i64 0] 30)).alloc (.cells #[.string s,.int .i64 0] 145))=w4:=⟨_,rfl⟩
 rw [hw4] at HS ⊢
 clear hw4
 go_wp2_with (go_at_call 92;(with_reducible refine (HI.out _ HS.out.rd).mono ?_);rintro o w5 ⟨rfl,hg5⟩)
 refine leaves_cons (f:=91) (args:=#[.pointer (some ⟨w.heap.size,0,none⟩),.pointer (some ⟨w.heap.size+1,0,none⟩),.pointer (some ⟨w.heap.size+1+1,0,none⟩)]) (by simp) (by simp [go_sem]) ?_
 have hz:=HS.out.size
 have h3 : Rd3 w.heap.size w5:=⟨(hg5.block _ (by omega) (fun e=>by injection e;omega)).trans HS.out.it,(hg5.block _ (by omega) (fun e=>by injection e;omega)).trans HS.out.num,(hg5.block _ (by omega) (fun e=>by injection e;omega)).trans HS.out.err⟩
 have hb5 : Below w.heap.size w w5:=HS.out.bel.trans (below_grown hg5 (by omega) (fun g hg=>by injection hg;omega))
 refine (read_catch w.heap.size z [] w5 h3).mono ?_
 rintro e u' w7 ⟨rfl,rfl,hw7⟩
 obtain ⟨⟨x0,x1,x2,x3⟩,x4,x5,hbel⟩:=h3.fin hw7.symm
 simp [Leaves,settle,results,Tryz.results57,go_sem,x0,x1,x2,x3,x4,x5]
 exact ⟨rfl,hbel _ (Nat.le_refl _) _ hb5⟩
theorem enc_ReadL (s : ByteArray) (w : World) (hs : 65536 < s.size) : Calls Tryz.prog 57 #[.string s] w (RdErr w 5):=by
 have d1 : decide ((65536 : Int) < (s.size : Int))=true:=decide_eq_true (by omega)
 have d2 : decide (65536 < s.size)=true:=decide_eq_true (by omega)
 go_enter_defers Tryz.func57,Tryz.ntmps57
 go_wp2_with fail
 simp [bodyPostD,Leaves,results,Tryz.results57,go_sem]
 exact ⟨rfl,(((Below.refl _ _).alloc (Nat.le_refl _) _).alloc (by simp) _).alloc (by simp only [World.size_alloc];omega) _⟩
theorem zero_fin {b : Nat} {w0 w : World} (o : Obj) (hb : Below b w0 w) (hrow : w.heap[b]?=some (.cells #[.int .i64 0,.string ⟨#[]⟩,.string ⟨#[]⟩,.slice none 0 0] 63 (0,0))) {W : World} (hW : ((((w.setCell ⟨b,0,none⟩ (.int .i64 0)).setCell ⟨b,1,none⟩ (.string ⟨#[]⟩)).setCell ⟨b,2,none⟩ (.string ⟨#[]⟩)).setCell ⟨b,3,none⟩ (.slice none 0 0)).alloc o=W) :
  (W.cell? ⟨b,0,none⟩=some (.int .i64 0)∧W.cell? ⟨b,1,none⟩=some (.string ⟨#[]⟩)∧W.cell? ⟨b,2,none⟩=some (.string ⟨#[]⟩)∧W.cell? ⟨b,3,none⟩=some (.slice none 0 0))∧Below b w0 W:=by
 subst hW
 have hlt : b < w.heap.size:=(Array.getElem?_eq_some_iff.1 hrow).1
 have e0:=heap_setCell_same w b 0 _ _ (.int .i64 0) hrow
 have e1:=heap_setCell_same _ b 1 _ _ (.string ⟨#[]⟩) e0
 have e2:=heap_setCell_same _ b 2 _ _ (.string ⟨#[]⟩) e1
 have e3:=heap_setCell_same _ b 3 _ _ (.slice none 0 0) e2
 have e4:=(Below.heap_alloc _ o _ (by simpa using hlt)).trans e3
 exact ⟨⟨cell_of_row _ _ 0 _ _ _ e4,cell_of_row _ _ 1 _ _ _ e4,cell_of_row _ _ 2 _ _ _ e4,cell_of_row _ _ 3 _ _ _ e4⟩,((((hb.setCell (p:=⟨b,0,none⟩) (Nat.le_refl _) _).setCell (p:=⟨b,1,none⟩) (Nat.le_refl _) _).setCell (p:=⟨b,2,none⟩) (Nat.le_refl _) _).setCell (p:=⟨b,3,none⟩) (Nat.le_refl _) _).alloc (by simp;omega) _⟩
def DcErr (w : World) (z : Int) (o : Ending) (w' : World) : Prop:=o=.returned (.tuple #[.agg #[.int .i64 0,.string ⟨#[]⟩,.string ⟨#[]⟩,.slice none 0 0],.int .i64 z])∧Below w.heap.size w w'
theorem dec_err {s : ByteArray} {z : Int} (h : decS s=.err z) : (65536 < s.size∧z=5)∨(s.size≤65536∧rdO 0 s.data.toList=.err z∧(z=4∨z=7))∨(s.size≤65536∧z=4∧∃ y r,rdO 0 s.data.toList=.ok (y,r)∧r≠[]):=by
 unfold decS textMax at h
 split at h
 · injection h with h
   exact .inl ⟨by assumption,h.symm⟩
 · rename_i h1
   cases hr : rdO 0 s.data.toList with
   | err e =>
     rw [hr] at h
     injection h with h
     subst h
     refine .inr (.inl ⟨by omega,rfl,?_⟩)
     rw [← seg_all] at hr
     exact rdO_z (Nat.le_refl _) hr
   | ok x =>
     obtain ⟨y',r⟩:=x
     rw [hr] at h
     dsimp only at h
     split at h
     · cases h
     · rename_i h2
       injection h with h
       exact .inr (.inr ⟨by omega,h.symm,y',r,rfl,h2⟩)
theorem enc_DecodeF (s : ByteArray) (z : Int) (w : World) (h : decS s=.err z) : Calls Tryz.prog 18 #[.string s] w (DcErr w z):=by
 have hb0 : Below w.heap.size w (w.alloc (.cells #[.int .i64 0,.string ⟨#[]⟩,.string ⟨#[]⟩,.slice none 0 0] 63)):=(Below.refl _ _).alloc (Nat.le_refl _) _
 have HB0:=Lib.hid (And.intro hb0 (heap_alloc_new w (.cells #[.int .i64 0,.string ⟨#[]⟩,.string ⟨#[]⟩,.slice none 0 0] 63)))
 clear hb0
 have HE : (∀ W,Calls Tryz.prog 57 #[.string s] W (RdErr W z))∧z≠0∨(z=4∧∃ y r,r≠[]∧∀ W,Calls Tryz.prog 57 #[.string s] W (ReadGot W s y r)):=by
  rcases dec_err h with ⟨h1,rfl⟩ | ⟨h1,h2,h3⟩ | ⟨h1,rfl,y,r,h2,h3⟩
  · exact .inl ⟨fun W=>enc_ReadL s W h1,by decide⟩
  · exact .inl ⟨fun W=>enc_ReadF s z W h1 h2,by omega⟩
  · exact .inr ⟨rfl,y,r,h3,fun W=>enc_Read s y r W h1 h2⟩
 clear h
 rcases HE with ⟨h,hz⟩ | ⟨rfl,y,r,hr,h⟩
 · have HR:=Lib.hid h
   have i1 : (z==0)=false:=by simp;omega
   have i2 : (z != 0)=true:=by simp;omega
   clear h
   go_enter Tryz.func18, Tryz.ntmps18
   go_wp2_with (go_at_call 57;(with_reducible refine (HR.out _).mono ?_);rintro o w5 ⟨rfl,hb5⟩;have HB:=Lib.hid (below2 HB0.out.1 hb5);have hrow:=(hb5.block _ (by simp)).trans HB0.out.2;have hz5 : w.heap.size < w5.heap.size:=(by { have:=hb5.size;simp only [World.size_alloc] at this;omega });have x0:=cell_of_row _ _ 0 _ _ _ hrow;have x1:=cell_of_row _ _ 1 _ _ _ hrow;have x2:=cell_of_row _ _ 2 _ _ _ hrow;have x3:=cell_of_row _ _ 3 _ _ _ hrow;have f0:=frozen_of_row _ _ 0 _ _ hrow;have f1:=frozen_of_row _ _ 1 _ _ hrow;have f2:=frozen_of_row _ _ 2 _ _ hrow;have f3:=frozen_of_row _ _ 3 _ _ hrow;have HRW:=Lib.hid hrow;clear hb5 hrow)
   obtain ⟨W,hW⟩ : ∃ W,((((w5.setCell ⟨w.heap.size,0,none⟩ (.int .i64 0)).setCell ⟨w.heap.size,1,none⟩ (.string ⟨#[]⟩)).setCell ⟨w.heap.size,2,none⟩ (.string ⟨#[]⟩)).setCell ⟨w.heap.size,3,none⟩ (.slice none 0 0)).alloc (.cells #[.int .i64 0,.string ⟨#[]⟩,.string ⟨#[]⟩,.slice none 0 0] 63)=W:=⟨_,rfl⟩
   obtain ⟨⟨q0,q1,q2,q3⟩,hbel⟩:=zero_fin _ HB.out HRW.out hW
   rw [hW]
   refine bodyPost_ret (v:=.tuple #[.agg #[.int .i64 0,.string ⟨#[]⟩,.string ⟨#[]⟩,.slice none 0 0],.int .i64 z]) (by simp [results,Tryz.results18,go_sem,q0,q1,q2,q3]) rfl ?_
   exact ⟨rfl,hbel⟩
 · have HR:=Lib.hid h
   obtain ⟨yk,yn,yt,yl⟩:=y
   clear h
   go_enter Tryz.func18, Tryz.ntmps18
   go_wp2_with (go_at_call 57;(with_reducible refine (HR.out _).mono ?_);rintro o w5 ⟨A5,c5,a3,rfl,hr5,ha5,hc5,hsl5,hb5⟩;have hlt : (a3 : Int) < (s.size : Int):=(by { apply Classical.byContradiction;intro hh;exact hr (by rw [hr5];exact seg_nil (by omega)) });have hlt2 : decide ((a3 : Int) < (s.size : Int))=true:=decide_eq_true hlt;have HB:=Lib.hid (below2 HB0.out.1 hb5);have hrow:=(hb5.block _ (by simp)).trans HB0.out.2;have hz5 : w.heap.size < w5.heap.size:=(by { have:=hb5.size;simp only [World.size_alloc] at this;omega });have x0:=cell_of_row _ _ 0 _ _ _ hrow;have x1:=cell_of_row _ _ 1 _ _ _ hrow;have x2:=cell_of_row _ _ 2 _ _ _ hrow;have x3:=cell_of_row _ _ 3 _ _ _ hrow;have f0:=frozen_of_row _ _ 0 _ _ hrow;have f1:=frozen_of_row _ _ 1 _ _ hrow;have f2:=frozen_of_row _ _ 2 _ _ hrow;have f3:=frozen_of_row _ _ 3 _ _ hrow;have HRW:=Lib.hid hrow;clear hb5 hrow;clear hr5 ha5 hc5 hsl5)
   obtain ⟨W,hW⟩ : ∃ W,((((w5.setCell ⟨w.heap.size,0,none⟩ (.int .i64 0)).setCell ⟨w.heap.size,1,none⟩ (.string ⟨#[]⟩)).setCell ⟨w.heap.size,2,none⟩ (.string ⟨#[]⟩)).setCell ⟨w.heap.size,3,none⟩ (.slice none 0 0)).alloc (.cells #[.int .i64 yk,.string yn,.string yt,.slice A5 yl.len c5] 63)=W:=⟨_,rfl⟩
   obtain ⟨⟨q0,q1,q2,q3⟩,hbel⟩:=zero_fin _ HB.out HRW.out hW
   rw [hW]
   refine bodyPost_ret (v:=.tuple #[.agg #[.int .i64 0,.string ⟨#[]⟩,.string ⟨#[]⟩,.slice none 0 0],.int .i64 4]) (by simp [results,Tryz.results18,go_sem,q0,q1,q2,q3]) rfl ?_
   exact ⟨rfl,hbel⟩
theorem is_failure (w : World) : (Instr.typeAssert (.iface 67 (.agg #[])) 20 67 true).run Tryz.prog w=.ok (.tuple #[.agg #[],.bool true]) w:=by kernel_rfl
structure Ap2 (b : Nat) (w : World) : Prop where
 res : w.heap[b]?=some (.cells #[.string ⟨#[]⟩,.slice none 0 0,.slice none 0 0,.slice none 0 0] 27 (0,0))
 err : w.heap[b+1]?=some (.cells #[.int .i64 0] 30 (0,0))
def failV : Value:=.iface 67 (.agg #[])
theorem apply_catch (b : Nat) (older : List PanicEntry) (w : World) (h : Ap2 b w) :
  CallsD Tryz.prog 19 #[.pointer (some ⟨b,0,none⟩),.pointer (some ⟨b+1,0,none⟩)] (.panicking ({ v:=failV,recovered:=false }::older)) w fun e u' w' =>
   e=.returned (.tuple #[])∧u'=.panicking ({ v:=failV,recovered:=true }::older) ∧
   w'=(((((w.setCell ⟨b,0,none⟩ (.string ⟨#[]⟩)).setCell ⟨b,1,none⟩ (.slice none 0 0)).setCell ⟨b,2,none⟩ (.slice none 0 0)).setCell ⟨b,3,none⟩ (.slice none 0 0)).setCell ⟨b+1,0,none⟩ (.int .i64 4)).alloc (.cells #[] 67):=by
 unfold failV
 have hnn:=neq_some 67 (.agg #[])
 have hta:=is_failure
 have hlt : b < w.heap.size:=(Array.getElem?_eq_some_iff.1 h.res).1
 have hlt2 : b+1 < w.heap.size:=(Array.getElem?_eq_some_iff.1 h.err).1
 have x0:=cell_of_row w _ 0 _ _ _ h.res
 have x1:=cell_of_row w _ 1 _ _ _ h.res
 have x2:=cell_of_row w _ 2 _ _ _ h.res
 have x3:=cell_of_row w _ 3 _ _ _ h.res
 have z0:=cell_of_row w _ 0 _ _ _ h.err
 have f0:=frozen_of_row w _ 0 _ _ h.res
 have f1:=frozen_of_row w _ 1 _ _ h.res
 have f2:=frozen_of_row w _ 2 _ _ h.res
 have f3:=frozen_of_row w _ 3 _ _ h.res
 have k0:=frozen_of_row w _ 0 _ _ h.err
 clear h
 refine callsD_of_wpS Tryz.func19 rfl fun c₀ cs hu=>?_
 apply wpS_seq
 apply wpS_region
 simp [wpOpsS,go_sem,recoverD,hu,Tryz.ntmps19,Exit.thenS]
 apply wpS_seq
 apply wpS_region
 simp [wpOpsS,go_sem,recoverD,hnn,Exit.thenS]
 refine wpS_cond (t:=true) (by simp [Act.eval,Array.replicate]) ?_
 simp only [if_true]
 apply wpS_seq
 apply wpS_seq
 apply wpS_region
 simp [wpOpsS,go_sem,hta,Exit.thenS]
 apply wpS_seq
 apply wpS_region
 simp [wpOpsS,go_sem,Exit.thenS]
 refine wpS_cond (t:=false) (by simp [Act.eval,Array.replicate]) ?_
 simp only [Bool.false_eq_true,if_false]
 refine wpS_of_wp (wp_skip ?_)
 simp only [Exit.thenS]
 apply wpS_region
 simp [wpOpsS,go_sem,x0,x1,x2,x3,z0,f0,f1,f2,f3,k0,hlt,hlt2,bodyPostS,results,Tryz.results19]
theorem Ap2.fin {b : Nat} {w W : World} (h : Ap2 b w) (hW : (((((w.setCell ⟨b,0,none⟩ (.string ⟨#[]⟩)).setCell ⟨b,1,none⟩ (.slice none 0 0)).setCell ⟨b,2,none⟩ (.slice none 0 0)).setCell ⟨b,3,none⟩ (.slice none 0 0)).setCell ⟨b+1,0,none⟩ (.int .i64 4)).alloc (.cells #[] 67)=W) :
  (W.cell? ⟨b,0,none⟩=some (.string ⟨#[]⟩)∧W.cell? ⟨b,1,none⟩=some (.slice none 0 0)∧W.cell? ⟨b,2,none⟩=some (.slice none 0 0)∧W.cell? ⟨b,3,none⟩=some (.slice none 0 0))∧W.cell? ⟨b+1,0,none⟩=some (.int .i64 4)∧∀ lo,lo≤b→∀ w0,Below lo w0 w→Below lo w0 W:=by
 subst hW
 have hlt : b < w.heap.size:=(Array.getElem?_eq_some_iff.1 h.res).1
 have hlt2 : b+1 < w.heap.size:=(Array.getElem?_eq_some_iff.1 h.err).1
 have n1 : b≠b+1:=by omega
 have n3 : b+1≠b:=by omega
 have e0:=heap_setCell_same w b 0 _ _ (.string ⟨#[]⟩) h.res
 have e1:=heap_setCell_same _ b 1 _ _ (.slice none 0 0) e0
 have e2:=heap_setCell_same _ b 2 _ _ (.slice none 0 0) e1
 have e3:=heap_setCell_same _ b 3 _ _ (.slice none 0 0) e2
 have e4:=(heap_setCell_other _ ⟨b+1,0,none⟩ _ (.int .i64 4) n1).trans e3
 have e5:=(Below.heap_alloc _ (.cells #[] 67) _ (by simpa using hlt)).trans e4
 have d0 : ((((w.setCell ⟨b,0,none⟩ (.string ⟨#[]⟩)).setCell ⟨b,1,none⟩ (.slice none 0 0)).setCell ⟨b,2,none⟩ (.slice none 0 0)).setCell ⟨b,3,none⟩ (.slice none 0 0)).heap[b+1]?=some (.cells #[.int .i64 0] 30 (0,0)):=by
  rw [heap_setCell_other _ _ _ _ n3,heap_setCell_other _ _ _ _ n3,heap_setCell_other _ _ _ _ n3,heap_setCell_other _ _ _ _ n3]
  exact h.err
 have d1:=heap_setCell_same _ (b+1) 0 _ _ (.int .i64 4) d0
 have d2:=(Below.heap_alloc _ (.cells #[] 67) _ (by simpa using hlt2)).trans d1
 refine ⟨⟨cell_of_row _ _ 0 _ _ _ e5,cell_of_row _ _ 1 _ _ _ e5,cell_of_row _ _ 2 _ _ _ e5,cell_of_row _ _ 3 _ _ _ e5⟩,cell_of_row _ _ 0 _ _ _ d2,fun lo hlo w0 hb=>?_⟩
 exact (((((hb.setCell (p:=⟨b,0,none⟩) hlo _).setCell (p:=⟨b,1,none⟩) hlo _).setCell (p:=⟨b,2,none⟩) hlo _).setCell (p:=⟨b,3,none⟩) hlo _).setCell (p:=⟨b+1,0,none⟩) (Nat.le_succ_of_le hlo) _).alloc (by simp;omega) _
def nmSecret : ByteArray:=⟨#[115,101,99,114,101,116]⟩
def nmAsked : ByteArray:=⟨#[97,115,107,101,100]⟩
def nmHeld : ByteArray:=⟨#[104,101,108,100]⟩
def nmRenewed : ByteArray:=⟨#[114,101,110,101,119,101,100]⟩
def nmUsed : ByteArray:=⟨#[117,115,101,100]⟩
def nmKept : ByteArray:=⟨#[107,101,112,116]⟩
def nmCounted : ByteArray:=⟨#[99,111,117,110,116,101,100]⟩
noncomputable def effE (sec : ByteArray) (qs : List Az) (hs : List Hz) (us : List Uz) (nm : ByteArray) (l : Its) : Rs :=
 if nm=nmSecret then secretE l else if nm=nmAsked then askedE sec qs hs us l else if nm=nmHeld then heldE sec qs hs us l else if nm=nmRenewed then renewedE sec qs hs us l else if nm=nmUsed then spentE sec qs hs us l else if nm=nmKept then keptE sec qs hs us l else if nm=nmCounted then countedE sec qs hs us l else Rs.err 4
noncomputable def entryE (sec : ByteArray) (qs : List Az) (hs : List Hz) (us : List Uz) (l : Its) : Rs:=match rTxt l with | none=>Rs.err 4 | some p=>effE sec qs hs us p.1 p.2
noncomputable def applR (sec : ByteArray) (qs : List Az) (hs : List Hz) (us : List Uz) (s : ByteArray) : Rs :=
 if validW sec qs hs us=true then (match decS s with | .err _=>Rs.err 4 | .ok y=>if y.1=2 then entryE sec qs hs us y.2.2.2 else Rs.err 4) else Rs.err 3
def effD (st : Value) : DataW Value:=(DataW.put (DataW.put (DataW.put (DataW.put (DataW.put (DataW.put (DataW.put (.map []) (.string (⟨#[115,101,99,114,101,116]⟩ : ByteArray).data.toList) (.held (.func (.func 20) #[st] #[]))) (.string (⟨#[97,115,107,101,100]⟩ : ByteArray).data.toList) (.held (.func (.func 21) #[st] #[]))) (.string (⟨#[104,101,108,100]⟩ : ByteArray).data.toList) (.held (.func (.func 22) #[st] #[]))) (.string (⟨#[114,101,110,101,119,101,100]⟩ : ByteArray).data.toList) (.held (.func (.func 23) #[st] #[]))) (.string (⟨#[117,115,101,100]⟩ : ByteArray).data.toList) (.held (.func (.func 24) #[st] #[]))) (.string (⟨#[107,101,112,116]⟩ : ByteArray).data.toList) (.held (.func (.func 25) #[st] #[]))) (.string (⟨#[99,111,117,110,116,101,100]⟩ : ByteArray).data.toList) (.held (.func (.func 26) #[st] #[])))
theorem effD_secret (st z : Value) : (effD st).atKey (.string nmSecret.data.toList) (.held z)=.held (.func (.func 20) #[st] #[])∧Maps.has (effD st) (.string nmSecret.data.toList)=true:=⟨by rfl,by rfl⟩
theorem effD_asked (st z : Value) : (effD st).atKey (.string nmAsked.data.toList) (.held z)=.held (.func (.func 21) #[st] #[])∧Maps.has (effD st) (.string nmAsked.data.toList)=true:=⟨by rfl,by rfl⟩
theorem effD_held (st z : Value) : (effD st).atKey (.string nmHeld.data.toList) (.held z)=.held (.func (.func 22) #[st] #[])∧Maps.has (effD st) (.string nmHeld.data.toList)=true:=⟨by rfl,by rfl⟩
theorem effD_renewed (st z : Value) : (effD st).atKey (.string nmRenewed.data.toList) (.held z)=.held (.func (.func 23) #[st] #[])∧Maps.has (effD st) (.string nmRenewed.data.toList)=true:=⟨by rfl,by rfl⟩
theorem effD_spent (st z : Value) : (effD st).atKey (.string nmUsed.data.toList) (.held z)=.held (.func (.func 24) #[st] #[])∧Maps.has (effD st) (.string nmUsed.data.toList)=true:=⟨by rfl,by rfl⟩
theorem effD_kept (st z : Value) : (effD st).atKey (.string nmKept.data.toList) (.held z)=.held (.func (.func 25) #[st] #[])∧Maps.has (effD st) (.string nmKept.data.toList)=true:=⟨by rfl,by rfl⟩
theorem effD_counted (st z : Value) : (effD st).atKey (.string nmCounted.data.toList) (.held z)=.held (.func (.func 26) #[st] #[])∧Maps.has (effD st) (.string nmCounted.data.toList)=true:=⟨by rfl,by rfl⟩
end Go.Proofs.YtjhlddlocpkhkaaGreat
namespace Go.Proofs.YtjhlddlocpkhkaaGreat
open Go.RowKit
set_option maxRecDepth 100000
set_option linter.unusedVariables false
set_option maxHeartbeats 16000000
theorem Ap2.put {b : Nat} {w W : World} (h : Ap2 b w) (v0 v1 v2 v3 z : Value) (hW : ((((w.setCell ⟨b,0,none⟩ v0).setCell ⟨b,1,none⟩ v1).setCell ⟨b,2,none⟩ v2).setCell ⟨b,3,none⟩ v3).setCell ⟨b+1,0,none⟩ z=W) :
  (W.cell? ⟨b,0,none⟩=some v0∧W.cell? ⟨b,1,none⟩=some v1∧W.cell? ⟨b,2,none⟩=some v2∧W.cell? ⟨b,3,none⟩=some v3)∧W.cell? ⟨b+1,0,none⟩=some z∧(∀ lo,lo≤b→∀ w0,Below lo w0 w→Below lo w0 W)∧W.heap.size=w.heap.size∧∀ g,g≠b→g≠b+1→W.heap[g]?=w.heap[g]?:=by
 subst hW
 have n1 : b≠b+1:=by omega
 have n3 : b+1≠b:=by omega
 have e0:=heap_setCell_same w b 0 _ _ v0 h.res
 have e1:=heap_setCell_same _ b 1 _ _ v1 e0
 have e2:=heap_setCell_same _ b 2 _ _ v2 e1
 have e3:=heap_setCell_same _ b 3 _ _ v3 e2
 have e4:=(heap_setCell_other _ ⟨b+1,0,none⟩ _ z n1).trans e3
 have d0 : ((((w.setCell ⟨b,0,none⟩ v0).setCell ⟨b,1,none⟩ v1).setCell ⟨b,2,none⟩ v2).setCell ⟨b,3,none⟩ v3).heap[b+1]?=some (.cells #[.int .i64 0] 30 (0,0)):=by
  rw [heap_setCell_other _ _ _ _ n3,heap_setCell_other _ _ _ _ n3,heap_setCell_other _ _ _ _ n3,heap_setCell_other _ _ _ _ n3]
  exact h.err
 have d1:=heap_setCell_same _ (b+1) 0 _ _ z d0
 refine ⟨⟨cell_of_row _ _ 0 _ _ _ e4,cell_of_row _ _ 1 _ _ _ e4,cell_of_row _ _ 2 _ _ _ e4,cell_of_row _ _ 3 _ _ _ e4⟩,cell_of_row _ _ 0 _ _ _ d1,fun lo hlo w0 hb=>?_,by simp,fun g h1 h2=>?_⟩
 · exact ((((hb.setCell (p:=⟨b,0,none⟩) hlo _).setCell (p:=⟨b,1,none⟩) hlo _).setCell (p:=⟨b,2,none⟩) hlo _).setCell (p:=⟨b,3,none⟩) hlo _).setCell (p:=⟨b+1,0,none⟩) (Nat.le_succ_of_le hlo) _
 · rw [heap_setCell_other _ _ _ _ h2,heap_setCell_other _ _ _ _ h1,heap_setCell_other _ _ _ _ h1,heap_setCell_other _ _ _ _ h1,heap_setCell_other _ _ _ _ h1]
theorem gotN_zero {w W : World} {z : Int} (hb : Below w.heap.size w W) : GotN w (Rs.err z) (.returned (.tuple #[.agg #[.string ⟨#[]⟩,.slice none 0 0,.slice none 0 0,.slice none 0 0],.int .i64 z])) W:=⟨none,0,none,0,none,0,rfl,WalM.nil_,hb⟩
theorem apply_inv (sec : ByteArray) (qs : List Az) (hs : List Hz) (us : List Uz) (Aa Ah Au : Option Addr) (na ca nh ch nu cu : Nat) (S : Nat→Prop) (w : World) (hq : qs.length=na) (hn : hs.length=nh) (hu : us.length=nu) (hma : na < 4096) (hmh : nh < 4096) (hmu : nu < 4096) (ho : WalOk qs hs us) (h : WalM w S qs hs us Aa Ah Au) (hS : ∀ g,S g→g < w.heap.size) (s : ByteArray) (hval : validW sec qs hs us=false) :
  Calls Tryz.prog 7 #[.agg #[.string sec,.slice Aa na ca,.slice Ah nh ch,.slice Au nu cu],.string s] w (GotN w (Rs.err 3)):=by
 have hmf : ∀ (fn : Fn) (first cap : Array Value) (w : World),(Instr.makeFunc fn first cap).run Tryz.prog w=.ok (.func fn first cap) w:=fun _ _ _ _=>rfl
 have HV:=Lib.hid (fun W (hb : Below w.heap.size w W)=>wal_valid sec qs hs us Aa Ah Au na ca nh ch nu cu S W hq hn hu (by have:=ho.na;omega) (by have:=ho.nh;omega) (by have:=ho.nu;omega) ho.nonce ho.att ho.scope (h.keep (fun q hq=>hb.cell (hS _ hq))) (fun g hg=>Nat.lt_of_lt_of_le (hS g hg) hb.size))
 rw [hval] at HV
 obtain ⟨W3,hW3⟩ : ∃ W3,(((w.alloc (.cells #[.string sec,.slice Aa na ca,.slice Ah nh ch,.slice Au nu cu] 27)).alloc (.cells #[.string ⟨#[]⟩,.slice none 0 0,.slice none 0 0,.slice none 0 0] 27)).alloc (.cells #[.int .i64 0] 30))=W3:=⟨_,rfl⟩
 have hb3 : Below w.heap.size w W3:=by rw [← hW3];exact (((Below.refl _ _).alloc (Nat.le_refl _) _).alloc (by simp) _).alloc (by simp only [World.size_alloc];omega) _
 have hx3 : W3.heap[w.heap.size]?=some (.cells #[.string sec,.slice Aa na ca,.slice Ah nh ch,.slice Au nu cu] 27 (0,0))∧W3.heap[w.heap.size+1]?=some (.cells #[.string ⟨#[]⟩,.slice none 0 0,.slice none 0 0,.slice none 0 0] 27 (0,0))∧W3.heap[w.heap.size+1+1]?=some (.cells #[.int .i64 0] 30 (0,0)):=by
  rw [← hW3]
  have e2:=heap_alloc_new ((w.alloc (.cells #[.string sec,.slice Aa na ca,.slice Ah nh ch,.slice Au nu cu] 27)).alloc (.cells #[.string ⟨#[]⟩,.slice none 0 0,.slice none 0 0,.slice none 0 0] 27)) (.cells #[.int .i64 0] 30)
  simp only [World.size_alloc] at e2
  exact ⟨(Below.heap_alloc _ _ _ (by simp only [World.size_alloc];omega)).trans (two_boxes w _ _).1,(Below.heap_alloc _ _ _ (by simp only [World.size_alloc];omega)).trans (two_boxes w _ _).2,e2⟩
 have hz3 : W3.heap.size=w.heap.size+3:=by rw [← hW3];simp
 have H3:=Lib.hid (And.intro hb3 (And.intro hx3 hz3))
 rw [← hW3] at H3
 clear hb3 hx3 hz3 hW3
 clear hq hn hu hma hmh hmu ho h hS hval
 go_enter_defers Tryz.func7,Tryz.ntmps7
 go_wp2_with (go_at_call 17;(with_reducible refine (HV.out _ H3.out.1).mono ?_);rintro e w4 ⟨rfl,hb4⟩;have hz4:=H3.out.2.2;have HA : Hid (Ap2 (w.heap.size+1) w4):=Lib.hid ⟨(hb4.block _ (by omega)).trans H3.out.2.1.2.1,(hb4.block _ (by omega)).trans H3.out.2.1.2.2⟩;have HB:=Lib.hid (H3.out.1.trans (hb4.mono (by omega)));have HC:=Lib.hid (And.intro HA.out.res HA.out.err);have x0:=cell_of_row _ _ 0 _ _ _ HC.out.1;have f0:=frozen_of_row _ _ 0 _ _ HC.out.1;have x1:=cell_of_row _ _ 1 _ _ _ HC.out.1;have f1:=frozen_of_row _ _ 1 _ _ HC.out.1;have x2:=cell_of_row _ _ 2 _ _ _ HC.out.1;have f2:=frozen_of_row _ _ 2 _ _ HC.out.1;have x3:=cell_of_row _ _ 3 _ _ _ HC.out.1;have f3:=frozen_of_row _ _ 3 _ _ HC.out.1;have k0:=cell_of_row _ _ 0 _ _ _ HC.out.2;have j0:=frozen_of_row _ _ 0 _ _ HC.out.2;clear hb4)
 obtain ⟨W,hW⟩ : ∃ W,(((((w4.setCell ⟨w.heap.size+1,0,none⟩ (.string ⟨#[]⟩)).setCell ⟨w.heap.size+1,1,none⟩ (.slice none 0 0)).setCell ⟨w.heap.size+1,2,none⟩ (.slice none 0 0)).setCell ⟨w.heap.size+1,3,none⟩ (.slice none 0 0)).setCell ⟨w.heap.size+1+1,0,none⟩ (.int .i64 3))=W:=⟨_,rfl⟩
 obtain ⟨⟨q0,q1,q2,q3⟩,q4,hbel,-,-⟩:=HA.out.put _ _ _ _ _ hW
 rw [hW]
 simp [bodyPostD,Leaves,results,Tryz.results7,go_sem,q0,q1,q2,q3,q4]
 exact gotN_zero (hbel _ (Nat.le_succ _) _ HB.out)
theorem apply_bad (sec : ByteArray) (qs : List Az) (hs : List Hz) (us : List Uz) (Aa Ah Au : Option Addr) (na ca nh ch nu cu : Nat) (S : Nat→Prop) (w : World) (hq : qs.length=na) (hn : hs.length=nh) (hu : us.length=nu) (hma : na < 4096) (hmh : nh < 4096) (hmu : nu < 4096) (ho : WalOk qs hs us) (h : WalM w S qs hs us Aa Ah Au) (hS : ∀ g,S g→g < w.heap.size) (s : ByteArray) (z : Int) (hval : validW sec qs hs us=true) (hdec : decS s=.err z) :
  Calls Tryz.prog 7 #[.agg #[.string sec,.slice Aa na ca,.slice Ah nh ch,.slice Au nu cu],.string s] w (GotN w (Rs.err 4)):=by
 have hmf : ∀ (fn : Fn) (first cap : Array Value) (w : World),(Instr.makeFunc fn first cap).run Tryz.prog w=.ok (.func fn first cap) w:=fun _ _ _ _=>rfl
 have HV:=Lib.hid (fun W (hb : Below w.heap.size w W)=>wal_valid sec qs hs us Aa Ah Au na ca nh ch nu cu S W hq hn hu (by have:=ho.na;omega) (by have:=ho.nh;omega) (by have:=ho.nu;omega) ho.nonce ho.att ho.scope (h.keep (fun q hq=>hb.cell (hS _ hq))) (fun g hg=>Nat.lt_of_lt_of_le (hS g hg) hb.size))
 rw [hval] at HV
 obtain ⟨W3,hW3⟩ : ∃ W3,(((w.alloc (.cells #[.string sec,.slice Aa na ca,.slice Ah nh ch,.slice Au nu cu] 27)).alloc (.cells #[.string ⟨#[]⟩,.slice none 0 0,.slice none 0 0,.slice none 0 0] 27)).alloc (.cells #[.int .i64 0] 30))=W3:=⟨_,rfl⟩
 have hb3 : Below w.heap.size w W3:=by rw [← hW3];exact (((Below.refl _ _).alloc (Nat.le_refl _) _).alloc (by simp) _).alloc (by simp only [World.size_alloc];omega) _
 have hx3 : W3.heap[w.heap.size]?=some (.cells #[.string sec,.slice Aa na ca,.slice Ah nh ch,.slice Au nu cu] 27 (0,0))∧W3.heap[w.heap.size+1]?=some (.cells #[.string ⟨#[]⟩,.slice none 0 0,.slice none 0 0,.slice none 0 0] 27 (0,0))∧W3.heap[w.heap.size+1+1]?=some (.cells #[.int .i64 0] 30 (0,0)):=by
  rw [← hW3]
  have e2:=heap_alloc_new ((w.alloc (.cells #[.string sec,.slice Aa na ca,.slice Ah nh ch,.slice Au nu cu] 27)).alloc (.cells #[.string ⟨#[]⟩,.slice none 0 0,.slice none 0 0,.slice none 0 0] 27)) (.cells #[.int .i64 0] 30)
  simp only [World.size_alloc] at e2
  exact ⟨(Below.heap_alloc _ _ _ (by simp only [World.size_alloc];omega)).trans (two_boxes w _ _).1,(Below.heap_alloc _ _ _ (by simp only [World.size_alloc];omega)).trans (two_boxes w _ _).2,e2⟩
 have hz3 : W3.heap.size=w.heap.size+3:=by rw [← hW3];simp
 have H3:=Lib.hid (And.intro hb3 (And.intro hx3 hz3))
 rw [← hW3] at H3
 clear hb3 hx3 hz3 hW3
 have HD:=Lib.hid (fun W=>enc_DecodeF s z W hdec)
 have hz0 : z≠0:=by rcases dec_err hdec with ⟨_,h⟩ | ⟨_,_,h⟩ | ⟨_,h,_⟩<;>omega
 have i1 : (z != 0)=true:=by simp;omega
 clear hq hn hu hma hmh hmu ho h hS hval hdec hz0
 go_enter_defers Tryz.func7,Tryz.ntmps7
 go_upto_region 4 with (first
  | (go_at_call 17;(with_reducible refine (HV.out _ H3.out.1).mono ?_);rintro e w4 ⟨rfl,hb4⟩;have HB4:=Lib.hid hb4;clear hb4)
  | (go_at_call 18;(with_reducible refine (HD.out _).mono ?_);rintro e w5 ⟨rfl,hb5⟩;have hz4:=H3.out.2.2;have hzz:=HB4.out.size;have hb5':=HB4.out.trans (hb5.mono hzz);have hz5:=hb5'.size;have HA:=Lib.hid (show Ap2 (w.heap.size+1) (w5.alloc (.cells #[.int .i64 0,.string ⟨#[]⟩,.string ⟨#[]⟩,.slice none 0 0] 63)) from ⟨(Below.heap_alloc _ _ _ (by omega)).trans ((hb5'.block _ (by omega)).trans H3.out.2.1.2.1),(Below.heap_alloc _ _ _ (by omega)).trans ((hb5'.block _ (by omega)).trans H3.out.2.1.2.2)⟩);have HB:=Lib.hid ((H3.out.1.trans (hb5'.mono (by omega))).alloc (by omega) (.cells #[.int .i64 0,.string ⟨#[]⟩,.string ⟨#[]⟩,.slice none 0 0] 63));have HI:=Lib.hid (heap_alloc_new w5 (.cells #[.int .i64 0,.string ⟨#[]⟩,.string ⟨#[]⟩,.slice none 0 0] 63));clear hb5 hb5' hz5 hzz hz4))
 obtain ⟨b6,hb6⟩ : ∃ b,w5.heap.size=b:=⟨_,rfl⟩
 obtain ⟨w6,hw6⟩ : ∃ w6,w5.alloc (.cells #[.int .i64 0,.string ⟨#[]⟩,.string ⟨#[]⟩,.slice none 0 0] 63)=w6:=⟨_,rfl⟩
 rw [hw6] at HA HB HI ⊢
 rw [hb6] at HI ⊢
 clear hw6 hb6
 have HC:=Lib.hid (And.intro HA.out.res HA.out.err)
 have x0:=cell_of_row _ _ 0 _ _ _ HC.out.1
 have f0:=frozen_of_row _ _ 0 _ _ HC.out.1
 have x1:=cell_of_row _ _ 1 _ _ _ HC.out.1
 have f1:=frozen_of_row _ _ 1 _ _ HC.out.1
 have x2:=cell_of_row _ _ 2 _ _ _ HC.out.1
 have f2:=frozen_of_row _ _ 2 _ _ HC.out.1
 have x3:=cell_of_row _ _ 3 _ _ _ HC.out.1
 have f3:=frozen_of_row _ _ 3 _ _ HC.out.1
 have k0:=cell_of_row _ _ 0 _ _ _ HC.out.2
 have j0:=frozen_of_row _ _ 0 _ _ HC.out.2
 go_wp2_with fail
 obtain ⟨W,hW⟩ : ∃ W,(((((w6.setCell ⟨w.heap.size+1,0,none⟩ (.string ⟨#[]⟩)).setCell ⟨w.heap.size+1,1,none⟩ (.slice none 0 0)).setCell ⟨w.heap.size+1,2,none⟩ (.slice none 0 0)).setCell ⟨w.heap.size+1,3,none⟩ (.slice none 0 0)).setCell ⟨w.heap.size+1+1,0,none⟩ (.int .i64 4))=W:=⟨_,rfl⟩
 obtain ⟨⟨q0,q1,q2,q3⟩,q4,hbel,-,-⟩:=HA.out.put _ _ _ _ _ hW
 rw [hW]
 simp [bodyPostD,Leaves,results,Tryz.results7,go_sem,q0,q1,q2,q3,q4]
 exact gotN_zero (hbel _ (Nat.le_succ _) _ HB.out)
theorem apply_kind (sec : ByteArray) (qs : List Az) (hs : List Hz) (us : List Uz) (Aa Ah Au : Option Addr) (na ca nh ch nu cu : Nat) (S : Nat→Prop) (w : World) (hq : qs.length=na) (hn : hs.length=nh) (hu : us.length=nu) (hma : na < 4096) (hmh : nh < 4096) (hmu : nu < 4096) (ho : WalOk qs hs us) (h : WalM w S qs hs us Aa Ah Au) (hS : ∀ g,S g→g < w.heap.size) (s : ByteArray) (yk : Int) (yn yt : ByteArray) (yl : Its) (hval : validW sec qs hs us=true) (hdec : decS s=.ok (yk,yn,yt,yl)) (hk : yk≠2) :
  Calls Tryz.prog 7 #[.agg #[.string sec,.slice Aa na ca,.slice Ah nh ch,.slice Au nu cu],.string s] w (GotN w (Rs.err 4)):=by
 have hmf : ∀ (fn : Fn) (first cap : Array Value) (w : World),(Instr.makeFunc fn first cap).run Tryz.prog w=.ok (.func fn first cap) w:=fun _ _ _ _=>rfl
 have HV:=Lib.hid (fun W (hb : Below w.heap.size w W)=>wal_valid sec qs hs us Aa Ah Au na ca nh ch nu cu S W hq hn hu (by have:=ho.na;omega) (by have:=ho.nh;omega) (by have:=ho.nu;omega) ho.nonce ho.att ho.scope (h.keep (fun q hq=>hb.cell (hS _ hq))) (fun g hg=>Nat.lt_of_lt_of_le (hS g hg) hb.size))
 rw [hval] at HV
 obtain ⟨W3,hW3⟩ : ∃ W3,(((w.alloc (.cells #[.string sec,.slice Aa na ca,.slice Ah nh ch,.slice Au nu cu] 27)).alloc (.cells #[.string ⟨#[]⟩,.slice none 0 0,.slice none 0 0,.slice none 0 0] 27)).alloc (.cells #[.int .i64 0] 30))=W3:=⟨_,rfl⟩
 have hb3 : Below w.heap.size w W3:=by rw [← hW3];exact (((Below.refl _ _).alloc (Nat.le_refl _) _).alloc (by simp) _).alloc (by simp only [World.size_alloc];omega) _
 have hx3 : W3.heap[w.heap.size]?=some (.cells #[.string sec,.slice Aa na ca,.slice Ah nh ch,.slice Au nu cu] 27 (0,0))∧W3.heap[w.heap.size+1]?=some (.cells #[.string ⟨#[]⟩,.slice none 0 0,.slice none 0 0,.slice none 0 0] 27 (0,0))∧W3.heap[w.heap.size+1+1]?=some (.cells #[.int .i64 0] 30 (0,0)):=by
  rw [← hW3]
  have e2:=heap_alloc_new ((w.alloc (.cells #[.string sec,.slice Aa na ca,.slice Ah nh ch,.slice Au nu cu] 27)).alloc (.cells #[.string ⟨#[]⟩,.slice none 0 0,.slice none 0 0,.slice none 0 0] 27)) (.cells #[.int .i64 0] 30)
  simp only [World.size_alloc] at e2
  exact ⟨(Below.heap_alloc _ _ _ (by simp only [World.size_alloc];omega)).trans (two_boxes w _ _).1,(Below.heap_alloc _ _ _ (by simp only [World.size_alloc];omega)).trans (two_boxes w _ _).2,e2⟩
 have hz3 : W3.heap.size=w.heap.size+3:=by rw [← hW3];simp
 have H3:=Lib.hid (And.intro hb3 (And.intro hx3 hz3))
 rw [← hW3] at H3
 clear hb3 hx3 hz3 hW3
 have HD:=Lib.hid (fun W=>enc_Decode s _ W hdec)
 dsimp only at HD
 have i1 : (yk != 2)=true:=by simp [hk]
 have HKK:=Lib.hid hk
 clear hq hn hu hma hmh hmu ho h hS hval hdec hk
 go_enter_defers Tryz.func7,Tryz.ntmps7
 go_upto_region 4 with (first
  | (go_at_call 17;(with_reducible refine (HV.out _ H3.out.1).mono ?_);rintro e w4 ⟨rfl,hb4⟩;have HB4:=Lib.hid hb4;clear hb4)
  | (go_at_call 18;(with_reducible refine (HD.out _).mono ?_);rintro e w5 ⟨A5,c5,rfl,hc5,hsl5,hb5⟩;have hz4:=H3.out.2.2;have hzz:=HB4.out.size;have hb5':=HB4.out.trans (hb5.mono hzz);have hz5:=hb5'.size;have HA:=Lib.hid (show Ap2 (w.heap.size+1) (w5.alloc (.cells #[.int .i64 yk,.string yn,.string yt,.slice A5 yl.len c5] 63)) from ⟨(Below.heap_alloc _ _ _ (by omega)).trans ((hb5'.block _ (by omega)).trans H3.out.2.1.2.1),(Below.heap_alloc _ _ _ (by omega)).trans ((hb5'.block _ (by omega)).trans H3.out.2.1.2.2)⟩);have HB:=Lib.hid ((H3.out.1.trans (hb5'.mono (by omega))).alloc (by omega) (.cells #[.int .i64 yk,.string yn,.string yt,.slice A5 yl.len c5] 63));have HI:=Lib.hid (heap_alloc_new w5 (.cells #[.int .i64 yk,.string yn,.string yt,.slice A5 yl.len c5] 63));clear hb5 hb5' hz5 hzz hz4))
 obtain ⟨b6,hb6⟩ : ∃ b,w5.heap.size=b:=⟨_,rfl⟩
 obtain ⟨w6,hw6⟩ : ∃ w6,w5.alloc (.cells #[.int .i64 yk,.string yn,.string yt,.slice A5 yl.len c5] 63)=w6:=⟨_,rfl⟩
 rw [hw6] at HA HB HI ⊢
 rw [hb6] at HI ⊢
 clear hw6 hb6
 have HC:=Lib.hid (And.intro HA.out.res HA.out.err)
 have x0:=cell_of_row _ _ 0 _ _ _ HC.out.1
 have f0:=frozen_of_row _ _ 0 _ _ HC.out.1
 have x1:=cell_of_row _ _ 1 _ _ _ HC.out.1
 have f1:=frozen_of_row _ _ 1 _ _ HC.out.1
 have x2:=cell_of_row _ _ 2 _ _ _ HC.out.1
 have f2:=frozen_of_row _ _ 2 _ _ HC.out.1
 have x3:=cell_of_row _ _ 3 _ _ _ HC.out.1
 have f3:=frozen_of_row _ _ 3 _ _ HC.out.1
 have k0:=cell_of_row _ _ 0 _ _ _ HC.out.2
 have j0:=frozen_of_row _ _ 0 _ _ HC.out.2
 have y0:=cell_of_row _ _ 0 _ _ _ HI.out
 go_wp2_with fail
 obtain ⟨W,hW⟩ : ∃ W,(((((w6.setCell ⟨w.heap.size+1,0,none⟩ (.string ⟨#[]⟩)).setCell ⟨w.heap.size+1,1,none⟩ (.slice none 0 0)).setCell ⟨w.heap.size+1,2,none⟩ (.slice none 0 0)).setCell ⟨w.heap.size+1,3,none⟩ (.slice none 0 0)).setCell ⟨w.heap.size+1+1,0,none⟩ (.int .i64 4))=W:=⟨_,rfl⟩
 obtain ⟨⟨q0,q1,q2,q3⟩,q4,hbel,-,-⟩:=HA.out.put _ _ _ _ _ hW
 rw [hW]
 simp [bodyPostD,Leaves,results,Tryz.results7,go_sem,q0,q1,q2,q3,q4]
 exact gotN_zero (hbel _ (Nat.le_succ _) _ HB.out)
def EffF (nm : ByteArray) (f : Nat) : Prop:=(nm=nmSecret∧f=20)∨(nm=nmAsked∧f=21)∨(nm=nmHeld∧f=22)∨(nm=nmRenewed∧f=23)∨(nm=nmUsed∧f=24)∨(nm=nmKept∧f=25)∨(nm=nmCounted∧f=26)
theorem eff_any (nm : ByteArray) (f : Nat) (hf : EffF nm f) (sec : ByteArray) (qs : List Az) (hs : List Hz) (us : List Uz) (Aa Ah Au : Option Addr) (na ca nh ch nu cu : Nat) (rb : Nat) (S S0 : Nat→Prop) (w : World) (hq : qs.length=na) (hn : hs.length=nh) (hu : us.length=nu) (hma : na < 4096) (hmh : nh < 4096) (hmu : nu < 4096) (hatt : ∀ x ∈ hs,x.att.length≤100000) (l : Its) (hok : okI l=true) (hsz : l.size≤10000) (hva : validA [] qs=true)
  (hin : InI w rb S l) (hr : rb < w.heap.size) (hS : ∀ g,S g→g < w.heap.size∧g≠rb) (hm : WalM w S0 qs hs us Aa Ah Au) (hS0 : ∀ g,S0 g→g < w.heap.size∧g≠rb) :
  Calls Tryz.prog f #[.agg #[.string sec,.slice Aa na ca,.slice Ah nh ch,.slice Au nu cu],.pointer (some ⟨rb,0,none⟩)] w (EffO w rb (effE sec qs hs us nm l)):=by
 rcases hf with ⟨rfl,rfl⟩ | ⟨rfl,rfl⟩ | ⟨rfl,rfl⟩ | ⟨rfl,rfl⟩ | ⟨rfl,rfl⟩ | ⟨rfl,rfl⟩ | ⟨rfl,rfl⟩
 · unfold effE
   rw [if_pos rfl]
   exact eff_secret sec qs hs us Aa Ah Au na ca nh ch nu cu rb S S0 w hq hn hu hma hmh hmu hatt l hok hsz hin hr hS hm hS0
 · unfold effE
   rw [if_neg (by decide),if_pos rfl]
   exact eff_asked sec qs hs us Aa Ah Au na ca nh ch nu cu rb S S0 w hq hn hu hma hmh hmu hatt l hok hsz hin hr hS hm hS0
 · unfold effE
   rw [if_neg (by decide),if_neg (by decide),if_pos rfl]
   exact eff_held sec qs hs us Aa Ah Au na ca nh ch nu cu rb S S0 w hq hn hu hma hmh hmu hatt l hok hsz hva hin hr hS hm hS0
 · unfold effE
   rw [if_neg (by decide),if_neg (by decide),if_neg (by decide),if_pos rfl]
   exact eff_renewed sec qs hs us Aa Ah Au na ca nh ch nu cu rb S S0 w hq hn hu hma hmh hmu hatt l hok hsz hin hr hS hm hS0
 · unfold effE
   rw [if_neg (by decide),if_neg (by decide),if_neg (by decide),if_neg (by decide),if_pos rfl]
   exact eff_spent sec qs hs us Aa Ah Au na ca nh ch nu cu rb S S0 w hq hn hu hma hmh hmu hatt l hok hsz hin hr hS hm hS0
 · unfold effE
   rw [if_neg (by decide),if_neg (by decide),if_neg (by decide),if_neg (by decide),if_neg (by decide),if_pos rfl]
   exact eff_kept sec qs hs us Aa Ah Au na ca nh ch nu cu rb S S0 w hq hn hu hma hmh hmu hatt l hok hsz hin hr hS hm hS0
 · unfold effE
   rw [if_neg (by decide),if_neg (by decide),if_neg (by decide),if_neg (by decide),if_neg (by decide),if_neg (by decide),if_pos rfl]
   exact eff_counted sec qs hs us Aa Ah Au na ca nh ch nu cu rb S S0 w hq hn hu hma hmh hmu hatt l hok hsz hin hr hS hm hS0
theorem effF_at {nm : ByteArray} {f : Nat} (hf : EffF nm f) (st z : Value) : nm.size≤1000∧(effD st).atKey (.string nm.data.toList) (.held z)=.held (.func (.func f) #[st] #[])∧Maps.has (effD st) (.string nm.data.toList)=true:=by
 rcases hf with ⟨rfl,rfl⟩ | ⟨rfl,rfl⟩ | ⟨rfl,rfl⟩ | ⟨rfl,rfl⟩ | ⟨rfl,rfl⟩ | ⟨rfl,rfl⟩ | ⟨rfl,rfl⟩
 · exact ⟨by decide,effD_secret st z⟩
 · exact ⟨by decide,effD_asked st z⟩
 · exact ⟨by decide,effD_held st z⟩
 · exact ⟨by decide,effD_renewed st z⟩
 · exact ⟨by decide,effD_spent st z⟩
 · exact ⟨by decide,effD_kept st z⟩
 · exact ⟨by decide,effD_counted st z⟩
theorem effF_enter {nm : ByteArray} {f : Nat} (hf : EffF nm f) (args : Array Value) (w : World) : (callFunc f args).run Tryz.prog w=.ok (.enter f args) w:=by
 rcases hf with ⟨rfl,rfl⟩ | ⟨rfl,rfl⟩ | ⟨rfl,rfl⟩ | ⟨rfl,rfl⟩ | ⟨rfl,rfl⟩ | ⟨rfl,rfl⟩ | ⟨rfl,rfl⟩
 · kernel_rfl
 · kernel_rfl
 · kernel_rfl
 · kernel_rfl
 · kernel_rfl
 · kernel_rfl
 · kernel_rfl
theorem key_ne {a b : ByteArray} (h : a≠b) : (Lit.string a.data.toList)≠Lit.string b.data.toList:=by
 intro e
 injection e with e
 exact h (ByteArray.ext (Array.toList_inj.1 e))
theorem effF_or (nm : ByteArray) : (∃ f,EffF nm f)∨((∀ sec qs hs us l,effE sec qs hs us nm l=Rs.err 4)∧∀ st z : Value,(effD st).atKey (.string nm.data.toList) (.held z)=.held z∧Maps.has (effD st) (.string nm.data.toList)=false):=by
 by_cases h0 : nm=nmSecret
 · exact .inl ⟨_,.inl ⟨h0,rfl⟩⟩
 by_cases h1 : nm=nmAsked
 · exact .inl ⟨_,.inr (.inl ⟨h1,rfl⟩)⟩
 by_cases h2 : nm=nmHeld
 · exact .inl ⟨_,.inr (.inr (.inl ⟨h2,rfl⟩))⟩
 by_cases h3 : nm=nmRenewed
 · exact .inl ⟨_,.inr (.inr (.inr (.inl ⟨h3,rfl⟩)))⟩
 by_cases h4 : nm=nmUsed
 · exact .inl ⟨_,.inr (.inr (.inr (.inr (.inl ⟨h4,rfl⟩))))⟩
 by_cases h5 : nm=nmKept
 · exact .inl ⟨_,.inr (.inr (.inr (.inr (.inr (.inl ⟨h5,rfl⟩)))))⟩
 by_cases h6 : nm=nmCounted
 · exact .inl ⟨_,.inr (.inr (.inr (.inr (.inr (.inr (⟨h6,rfl⟩))))))⟩
 refine .inr ⟨fun sec qs hs us l=>by unfold effE;rw [if_neg h0,if_neg h1,if_neg h2,if_neg h3,if_neg h4,if_neg h5,if_neg h6],fun st z=>⟨?_,?_⟩⟩
 · unfold effD
   exact (Maps.atKey_put_other (key_ne h6) _ _).trans ((Maps.atKey_put_other (key_ne h5) _ _).trans ((Maps.atKey_put_other (key_ne h4) _ _).trans ((Maps.atKey_put_other (key_ne h3) _ _).trans ((Maps.atKey_put_other (key_ne h2) _ _).trans ((Maps.atKey_put_other (key_ne h1) _ _).trans ((Maps.atKey_put_other (key_ne h0) _ _).trans (rfl)))))))
 · unfold effD
   exact (Maps.has_put_other (key_ne h6) _).trans ((Maps.has_put_other (key_ne h5) _).trans ((Maps.has_put_other (key_ne h4) _).trans ((Maps.has_put_other (key_ne h3) _).trans ((Maps.has_put_other (key_ne h2) _).trans ((Maps.has_put_other (key_ne h1) _).trans ((Maps.has_put_other (key_ne h0) _).trans (rfl)))))))
theorem FnMap.look_no {b n : Nat} {D : DataW Value} {w : World} (h : FnMap b n D w) {t e : TypeId} (ht : Tryz.prog.underlying t=some (.map 9 e)) {z : Value} (hz : (zeroValue e).run Tryz.prog w=.ok z w) (k : ByteArray) (hk : k.size≤100000)
  (hat : D.atKey (.string k.data.toList) (.held z)=.held z) (hhas : Maps.has D (.string k.data.toList)=false) :
  (Instr.lookup t (.map (some b)) (.string k) true).run Tryz.prog w=.ok (.tuple #[z,.bool false]) w:=by
 have hkey : keyOf Tryz.prog 9 (.string k)=some (.string k.data.toList):=Go.WideMaps.keyOf_string_mk Tryz.underlying9 (by unfold maxLen;omega)
 obtain ⟨v,ps,hrun,hv⟩:=World.ownsMap.look_ok h (Maps.string_keyed Tryz.underlying9) ht hz (show asIs z=some (.held z,[]) from rfl) hkey
 rw [hat] at hv
 unfold asIs at hv
 injection hv with hv
 injection hv with hv
 injection hv with hv
 rw [hrun,hhas,hv]
theorem ApB.fin2 {w wx : World} {S : Nat→Prop} {sec : ByteArray} {qs : List Az} {hs : List Hz} {us : List Uz} {Aa : Option Addr} {na ca : Nat} {Ah : Option Addr} {nh ch : Nat} {Au : Option Addr} {nu cu : Nat} {n t : ByteArray} {l : Its} {A : Option Addr} {m c b6 : Nat} (h : ApB w S sec qs hs us Aa na ca Ah nh ch Au nu cu n t l A m c b6 wx)
  {qs' : List Az} {hs' : List Hz} {us' : List Uz} {A1 A2 A3 : Option Addr} {B : Nat} (hB : w.heap.size+3≤B) (hm : WalM wx (fun g=>B≤g∧g < wx.heap.size) qs' hs' us' A1 A2 A3) (x0 x1 x2 x3 z : Value) {W : World}
  (hW : (((((wx.setCell ⟨w.heap.size+1,0,none⟩ x0).setCell ⟨w.heap.size+1,1,none⟩ x1).setCell ⟨w.heap.size+1,2,none⟩ x2).setCell ⟨w.heap.size+1,3,none⟩ x3).setCell ⟨w.heap.size+1+1,0,none⟩ z)=W) :
  (W.cell? ⟨w.heap.size+1,0,none⟩=some x0∧W.cell? ⟨w.heap.size+1,1,none⟩=some x1∧W.cell? ⟨w.heap.size+1,2,none⟩=some x2∧W.cell? ⟨w.heap.size+1,3,none⟩=some x3)∧W.cell? ⟨w.heap.size+1+1,0,none⟩=some z∧WalM W (fun g=>w.heap.size≤g∧g < W.heap.size) qs' hs' us' A1 A2 A3∧Below w.heap.size w W:=by
 obtain ⟨h1,h2,h3,h4,h5⟩:=(show Ap2 (w.heap.size+1) wx from ⟨h.res,h.err⟩).put x0 x1 x2 x3 z hW
 exact ⟨h1,h2,(hm.keep (fun p hp=>World.cell?_of_block (h5 _ (by have:=hp.1;omega) (by have:=hp.1;omega)))).mono (fun g hg=>⟨by have:=hg.1;omega,by rw [h4];exact hg.2⟩),h3 _ (Nat.le_succ _) _ h.bel⟩
theorem apply_list (sec : ByteArray) (qs : List Az) (hs : List Hz) (us : List Uz) (Aa Ah Au : Option Addr) (na ca nh ch nu cu : Nat) (S : Nat→Prop) (w : World) (hq : qs.length=na) (hn : hs.length=nh) (hu : us.length=nu) (hma : na < 4096) (hmh : nh < 4096) (hmu : nu < 4096) (ho : WalOk qs hs us) (h : WalM w S qs hs us Aa Ah Au) (hS : ∀ g,S g→g < w.heap.size) (s : ByteArray) (n0 t0 : ByteArray) (l0 : Its) (hval : validW sec qs hs us=true) (hdec : decS s=.ok (2,n0,t0,l0)) (hok : okI l0=true) (hlz : l0.size≤10000) (hnm : ∀ nm r,rTxt l0=some (nm,r)→nm.size≤65536) :
  Calls Tryz.prog 7 #[.agg #[.string sec,.slice Aa na ca,.slice Ah nh ch,.slice Au nu cu],.string s] w (GotN w (entryE sec qs hs us l0)):=by
 have hva : validA [] qs=true:=by
  unfold validW at hval
  simp only [Bool.and_eq_true] at hval
  exact hval.2.1
 have hmf : ∀ (fn : Fn) (first cap : Array Value) (w : World),(Instr.makeFunc fn first cap).run Tryz.prog w=.ok (.func fn first cap) w:=fun _ _ _ _=>rfl
 have HV:=Lib.hid (fun W (hb : Below w.heap.size w W)=>wal_valid sec qs hs us Aa Ah Au na ca nh ch nu cu S W hq hn hu (by have:=ho.na;omega) (by have:=ho.nh;omega) (by have:=ho.nu;omega) ho.nonce ho.att ho.scope (h.keep (fun q hq=>hb.cell (hS _ hq))) (fun g hg=>Nat.lt_of_lt_of_le (hS g hg) hb.size))
 rw [hval] at HV
 obtain ⟨W3,hW3⟩ : ∃ W3,(((w.alloc (.cells #[.string sec,.slice Aa na ca,.slice Ah nh ch,.slice Au nu cu] 27)).alloc (.cells #[.string ⟨#[]⟩,.slice none 0 0,.slice none 0 0,.slice none 0 0] 27)).alloc (.cells #[.int .i64 0] 30))=W3:=⟨_,rfl⟩
 have hb3 : Below w.heap.size w W3:=by rw [← hW3];exact (((Below.refl _ _).alloc (Nat.le_refl _) _).alloc (by simp) _).alloc (by simp only [World.size_alloc];omega) _
 have hx3 : W3.heap[w.heap.size]?=some (.cells #[.string sec,.slice Aa na ca,.slice Ah nh ch,.slice Au nu cu] 27 (0,0))∧W3.heap[w.heap.size+1]?=some (.cells #[.string ⟨#[]⟩,.slice none 0 0,.slice none 0 0,.slice none 0 0] 27 (0,0))∧W3.heap[w.heap.size+1+1]?=some (.cells #[.int .i64 0] 30 (0,0)):=by
  rw [← hW3]
  have e2:=heap_alloc_new ((w.alloc (.cells #[.string sec,.slice Aa na ca,.slice Ah nh ch,.slice Au nu cu] 27)).alloc (.cells #[.string ⟨#[]⟩,.slice none 0 0,.slice none 0 0,.slice none 0 0] 27)) (.cells #[.int .i64 0] 30)
  simp only [World.size_alloc] at e2
  exact ⟨(Below.heap_alloc _ _ _ (by simp only [World.size_alloc];omega)).trans (two_boxes w _ _).1,(Below.heap_alloc _ _ _ (by simp only [World.size_alloc];omega)).trans (two_boxes w _ _).2,e2⟩
 have hz3 : W3.heap.size=w.heap.size+3:=by rw [← hW3];simp
 have H3:=Lib.hid (And.intro hb3 (And.intro hx3 hz3))
 rw [← hW3] at H3
 clear hb3 hx3 hz3 hW3
 have hmm:=@run_makeMap Tryz.prog
 have HD:=Lib.hid (fun W=>enc_Decode s _ W hdec)
 dsimp only at HD
 obtain ⟨m,hm⟩ : ∃ m,l0.len=m:=⟨_,rfl⟩
 rw [hm] at HD
 have HM : Hid (l0.len=m∧m≤10000):=Lib.hid ⟨hm,by rw [← hm];exact Nat.le_trans (Its.len_size l0) hlz⟩
 clear hm
 have HSRC:=Lib.hid (fun W (hb : Below w.heap.size w W)=>h.keep (w':=W) (fun q hq=>hb.cell (hS _ hq)))
 have HS:=Lib.hid hS
 have HEFF : Hid (∀ (nm : ByteArray) (f : Nat) (l : Its) (W : World) (rb : Nat) (S1 S2 : Nat→Prop),EffF nm f→okI l=true→l.size≤10000→InI W rb S1 l→rb < W.heap.size→(∀ g,S1 g→g < W.heap.size∧g≠rb)→WalM W S2 qs hs us Aa Ah Au→(∀ g,S2 g→g < W.heap.size∧g≠rb) →
   Calls Tryz.prog f #[.agg #[.string sec,.slice Aa na ca,.slice Ah nh ch,.slice Au nu cu],.pointer (some ⟨rb,0,none⟩)] W (EffO W rb (effE sec qs hs us nm l))):=Lib.hid (fun nm f l W rb S1 S2 hf h1 h2 h3 h4 h5 h6 h7=>eff_any nm f hf sec qs hs us Aa Ah Au na ca nh ch nu cu rb S1 S2 W hq hn hu hma hmh hmu (fun x hx=>by have:=ho.att x hx;omega) l h1 h2 hva h3 h4 h5 h6 h7)
 have HOK:=Lib.hid (And.intro hok (And.intro hlz hnm))
 obtain ⟨P,hP⟩ : ∃ P,entryE sec qs hs us l0=P:=⟨_,rfl⟩
 rw [hP]
 have HP:=Lib.hid hP
 clear h hS ho hval hdec hq hn hu hma hmh hmu hok hlz hva hP hnm
 go_enter_defers Tryz.func7,Tryz.ntmps7
 go_upto_region 4 with (first
  | (go_at_call 17;(with_reducible refine (HV.out _ H3.out.1).mono ?_);rintro e w4 ⟨rfl,hb4⟩;have HB4:=Lib.hid hb4;clear hb4)
  | (go_at_call 18;(with_reducible refine (HD.out _).mono ?_);rintro e w5 ⟨A5,c5,rfl,hc5,hsl5,hb5⟩;have HB5:=Lib.hid hb5;have HC5:=Lib.hid hc5;have HSL5:=Lib.hid hsl5;clear hb5 hc5 hsl5))
 have hap : ApB w S sec qs hs us Aa na ca Ah nh ch Au nu cu n0 t0 l0 A5 m c5 w5.heap.size (w5.alloc (.cells #[.int .i64 2,.string n0,.string t0,.slice A5 m c5] 63)):=by
  have hz4:=HB4.out.size
  have hz5:=HB5.out.size
  have h3:=H3.out
  have hal : Below w5.heap.size w5 (w5.alloc (.cells #[.int .i64 2,.string n0,.string t0,.slice A5 m c5] 63)):=(Below.refl _ _).alloc (Nat.le_refl _) _
  have hb : Below (w.heap.size+3) _ (w5.alloc (.cells #[.int .i64 2,.string n0,.string t0,.slice A5 m c5] 63)):=(HB4.out.mono (by rw [h3.2.2];exact Nat.le_refl _)).trans ((HB5.out.mono (by omega)).trans (hal.mono (by omega)))
  have hbw:=h3.1.trans (hb.mono (by omega))
  exact ⟨(hb.block _ (by omega)).trans h3.2.1.1,(hb.block _ (by omega)).trans h3.2.1.2.1,(hb.block _ (by omega)).trans h3.2.1.2.2,heap_alloc_new w5 _,(HSL5.out.keep (fun p hp=>hal.cell hp.2)).mono (fun g hg=>⟨by have:=hg.1;omega,hg.2⟩),HSRC.out _ hbw,hbw,by omega,by simp⟩
 have HAP:=Lib.hid hap
 clear hap HB4 HB5 HSL5 H3 HV HD HSRC
 obtain ⟨b6,hb6⟩ : ∃ b,w5.heap.size=b:=⟨_,rfl⟩
 have hz6 : (w5.alloc (.cells #[.int .i64 2,.string n0,.string t0,.slice A5 m c5] 63)).heap.size=b6+1:=by rw [World.size_alloc,hb6]
 obtain ⟨w6,hw6⟩ : ∃ w6,w5.alloc (.cells #[.int .i64 2,.string n0,.string t0,.slice A5 m c5] 63)=w6:=⟨_,rfl⟩
 rw [hw6] at HAP hz6 ⊢
 rw [hb6] at HAP ⊢
 have HZ6:=Lib.hid hz6
 clear hw6 hb6 hz6
 obtain ⟨x0,x1,x2,x3⟩:=HAP.out.bc
 obtain ⟨i0,i1,i2,i3⟩:=HAP.out.ic
 go_upto_region 8 with fail
 have hal : Below (b6+1) w6 (w6.alloc (.cells #[.string sec,.slice Aa na ca,.slice Ah nh ch,.slice Au nu cu] 70)):=(Below.refl _ _).alloc (by rw [HZ6.out];exact Nat.le_refl _) _
 have HAP7:=Lib.hid (HAP.out.next HS.out hal)
 have hst : StB sec Aa na ca Ah nh ch Au nu cu (b6+1) (w6.alloc (.cells #[.string sec,.slice Aa na ca,.slice Ah nh ch,.slice Au nu cu] 70)):=by
  rw [← HZ6.out]
  exact heap_alloc_new w6 _
 have HST:=Lib.hid hst
 have hz7 : (w6.alloc (.cells #[.string sec,.slice Aa na ca,.slice Ah nh ch,.slice Au nu cu] 70)).heap.size=b6+2:=by rw [World.size_alloc,HZ6.out]
 have e6 : w6.heap.size=b6+1:=HZ6.out
 rw [e6]
 obtain ⟨w7,hw7⟩ : ∃ w7,(w6.alloc (.cells #[.string sec,.slice Aa na ca,.slice Ah nh ch,.slice Au nu cu] 70))=w7:=⟨_,rfl⟩
 rw [hw7] at HAP7 HST hz7 ⊢
 have HZ7:=Lib.hid hz7
 clear hw7 hz7 hal hst e6 HAP x0 x1 x2 x3 i0 i1 i2 i3
 have HMB : Hid (MpB w S sec qs hs us Aa na ca Ah nh ch Au nu cu n0 t0 l0 A5 m c5 b6 w7.heap.size 0 (.map []) (w7.alloc (.map #[] 0))):=Lib.hid (by
  have hal : Below w7.heap.size w7 (w7.alloc (.map #[] 0)):=(Below.refl _ _).alloc (Nat.le_refl _) _
  have hz:=HZ7.out
  exact ⟨HAP7.out.next HS.out (hal.mono (by omega)),(hal.block _ (by omega)).trans HST.out,FnMap.made w7,by omega,by simp⟩)
 clear HAP7 HST
 obtain ⟨s0,s1,s2,s3⟩:=HMB.out.st.cells
 go_upto_region 9 with (with_reducible refine wpl ?_;refine wpList_insert_fn _ rfl _ _ _ _ rfl _ Tryz.underlying72 w7.heap.size _ _ rfl HMB.out.fm (by decide) _ (by decide) _ rfl rfl ?_;intro w1 hfm1 hg1;replace HMB:=Lib.hid (HMB.out.put HS.out hfm1 hg1);clear s0 s1 s2 s3 hfm1 hg1;obtain ⟨s0,s1,s2,s3⟩:=HMB.out.st.cells)
 obtain ⟨i0,i1,i2,i3⟩:=HMB.out.ap.ic
 go_upto_region 10 with fail
 have hb10 : RdI A5 m c5 w1.heap.size (w1.alloc (.cells #[.slice A5 m c5] 75)):=heap_alloc_new w1 _
 have hal1 : Below w1.heap.size w1 (w1.alloc (.cells #[.slice A5 m c5] 75)):=(Below.refl _ _).alloc (Nat.le_refl _) _
 have HMB1:=Lib.hid (HMB.out.put HS.out (HMB.out.fm.kept (hal1.block _ HMB.out.size)) (gb_below hal1))
 have HTX:=Lib.hid (wal_textA l0 A5 m c5 w1.heap.size (fun g=>w.heap.size+3≤g∧g < b6) (w1.alloc (.cells #[.slice A5 m c5] 75)) HM.out.1 (by have:=HM.out.2;omega) (by have:=HC5.out;exact this) hb10 HMB1.out.ap.mem (fun g hg=>⟨by have:=HMB1.out.ap.size;have:=hg.2;omega,by have:=HMB.out.ap.size;have:=hg.2;omega⟩))
 clear hb10 hal1 s0 s1 s2 s3 i0 i1 i2 i3
 have hz10 : ∀ W : World,(zeroValue 71).run Tryz.prog W=.ok .nilFunc W:=fun W=>by kernel_rfl
 obtain ⟨b10,hb10⟩ : ∃ b,w1.heap.size=b:=⟨_,rfl⟩
 have hl10 : w7.heap.size < b10:=by have:=HMB.out.size;omega
 have hl6 : b6 < b10:=by have:=HMB.out.ap.size;omega
 have hz1 : (w1.alloc (.cells #[.slice A5 m c5] 75)).heap.size=b10+1:=by rw [World.size_alloc,hb10]
 have HL10:=Lib.hid (And.intro hl10 (And.intro hl6 hz1))
 clear hl10 hl6 hz1
 rw [hb10] at HTX
 rw [hb10]
 clear hb10
 have HFM : Hid (FnMap w7.heap.size 7 (effD (.agg #[.string sec,.slice Aa na ca,.slice Ah nh ch,.slice Au nu cu])) (w1.alloc (.cells #[.slice A5 m c5] 75))):=Lib.hid (by unfold effD;exact HMB1.out.fm)
 have HP':=HP.out
 unfold entryE at HP'
 unfold StA at HTX
 cases htx : rTxt l0 with
 | none =>
   rw [htx] at HTX HP'
   dsimp only at HP'
   subst HP'
   clear HP HFM HEFF htx
   go_wp2_with (go_at_call 27;(with_reducible refine HTX.out.mono ?_);rintro o w9 (⟨t,r,e,_⟩ | ⟨_,rfl,hg⟩);(cases e))
   have HA9:=HMB1.out.ap.grown HS.out hg HL10.out.2.1
   have h3 : Ap2 (w.heap.size+1) w9:=⟨HA9.res,HA9.err⟩
   refine leaves_cons (f:=19) (args:=#[.pointer (some ⟨w.heap.size+1,0,none⟩),.pointer (some ⟨w.heap.size+1+1,0,none⟩)]) (by simp) (by simp [go_sem]) ?_
   refine (apply_catch (w.heap.size+1) [] w9 h3).mono ?_
   rintro e u' w12 ⟨rfl,rfl,hw12⟩
   obtain ⟨⟨q0,q1,q2,q3⟩,q4,hbel⟩:=h3.fin hw12.symm
   simp [Leaves,settle,results,Tryz.results7,go_sem,q0,q1,q2,q3,q4]
   exact gotN_zero (hbel _ (Nat.le_succ _) _ HA9.bel)
 | some p =>
   obtain ⟨nm,rest⟩:=p
   rw [htx] at HTX HP'
   dsimp only at HP'
   have hlr:=rTxt_some HOK.out.1 htx
   have HR : Hid (okI rest=true∧rest.size≤10000∧nm.size≤65536):=Lib.hid ⟨hlr.2,(size_tail (hlr.1 ▸ HOK.out.2.1)).2,HOK.out.2.2 _ _ htx⟩
   clear hlr htx
   rcases effF_or nm with ⟨f,hf⟩ | ⟨hno,hmap⟩
   · have HF:=Lib.hid hf
     clear hf
     go_upto_region 11 with (go_at_call 27;(with_reducible refine HTX.out.mono ?_);rintro o w9 (⟨t,r,e,A9,c9,rfl,h1,h2,h3,h4⟩ | ⟨e,_⟩);rotate_left;(cases e);(simp only [Option.some.injEq,Prod.mk.injEq] at e;obtain ⟨e1,e2⟩:=e;subst e1 e2);have HMB9:=Lib.hid (HMB1.out.ap.grown HS.out h4 HL10.out.2.1);have hat:=effF_at HF.out (.agg #[.string sec,.slice Aa na ca,.slice Ah nh ch,.slice Au nu cu]) .nilFunc;have hlk:=(HFM.out.kept (h4.block _ (by have:=HL10.out.1;have:=HL10.out.2.2;omega) (fun e=>by have:=HL10.out.1;injection e;omega))).look Tryz.underlying72 (hz10 w9) nm hat.1 _ hat.2.1 hat.2.2;have HE9:=Lib.hid (HEFF.out nm f rest w9 b10 _ S HF.out HR.out.1 HR.out.2.1 ⟨A9,c9,h1,h2,h3⟩ h3.lt (fun g hg=>⟨by have:=HMB9.out.size;have:=hg.2;omega,by have:=HL10.out.2.1;have:=hg.2;omega⟩) HMB9.out.src (fun g hg=>⟨Nat.lt_of_lt_of_le (HS.out g hg) HMB9.out.bel.size,by have:=HS.out g hg;have:=HL10.out.2.1;have:=HMB9.out.lo;omega⟩));have HG9:=Lib.hid h4;clear h1 h2 h3 h4 hat)
     rw [HP'] at HE9
     have hen:=effF_enter HF.out
     clear HP' HP HEFF HFM
     go_wp2_with fail
     refine HE9.out.mono ?_
     rintro o w10 (⟨B1,d1,B2,d2,B3,d3,rfl,hmem,hg10⟩ | ⟨hR4,rfl,hg10⟩)
     rotate_left
     · subst hR4
       have HA9:=HMB9.out.grown HS.out hg10 HL10.out.2.1
       have h3 : Ap2 (w.heap.size+1) w10:=⟨HA9.res,HA9.err⟩
       refine leaves_cons (f:=19) (args:=#[.pointer (some ⟨w.heap.size+1,0,none⟩),.pointer (some ⟨w.heap.size+1+1,0,none⟩)]) (by simp) (by simp [go_sem]) ?_
       refine (apply_catch (w.heap.size+1) [] w10 h3).mono ?_
       rintro e u' w12 ⟨rfl,rfl,hw12⟩
       obtain ⟨⟨q0,q1,q2,q3⟩,q4,hbel⟩:=h3.fin hw12.symm
       simp [Leaves,settle,results,Tryz.results7,go_sem,q0,q1,q2,q3,q4]
       exact gotN_zero (hbel _ (Nat.le_succ _) _ HA9.bel)
     have HMA:=Lib.hid (HMB9.out.grown HS.out hg10 HL10.out.2.1)
     have HMM:=Lib.hid hmem
     obtain ⟨⟨r0,r1,r2,r3⟩,⟨g0,g1,g2,g3⟩,r4,g4⟩:=HMA.out.rc
     clear hmem hg10 hen
     dsimp only
     go_wp2_with fail
     refine leaves_cons (f:=19) (args:=#[.pointer (some ⟨w.heap.size+1,0,none⟩),.pointer (some ⟨w.heap.size+1+1,0,none⟩)]) (by simp) (by simp [go_sem]) ?_
     obtain ⟨W,hW⟩ : ∃ W,(((((w10.setCell ⟨w.heap.size+1,0,none⟩ (.string P.sec)).setCell ⟨w.heap.size+1,1,none⟩ (.slice B1 P.qs.length d1)).setCell ⟨w.heap.size+1,2,none⟩ (.slice B2 P.hs.length d2)).setCell ⟨w.heap.size+1,3,none⟩ (.slice B3 P.us.length d3)).setCell ⟨w.heap.size+1+1,0,none⟩ (.int .i64 P.z))=W:=⟨_,rfl⟩
     have HFN:=HMA.out.fin2 (B:=w9.heap.size) (by have:=HMB9.out.size;have:=HMB9.out.lo;omega) HMM.out (.string P.sec) (.slice B1 P.qs.length d1) (.slice B2 P.hs.length d2) (.slice B3 P.us.length d3) (.int .i64 P.z) hW
     rw [hW]
     clear hW
     refine (apply_idle _ _ _).mono ?_
     rintro e u' w12 ⟨rfl,rfl,rfl⟩
     obtain ⟨⟨z0,z1,z2,z3⟩,z4,hm12,hb12⟩:=HFN
     simp [Leaves,settle,results,Tryz.results7,go_sem,z0,z1,z2,z3,z4]
     exact ⟨B1,d1,B2,d2,B3,d3,rfl,hm12,hb12⟩
   · rw [hno] at HP'
     subst HP'
     have HMAP:=Lib.hid hmap
     clear HP HEFF hno hmap
     go_upto_region 11 with (go_at_call 27;(with_reducible refine HTX.out.mono ?_);rintro o w9 (⟨t,r,e,A9,c9,rfl,h1,h2,h3,h4⟩ | ⟨e,_⟩);rotate_left;(cases e);(simp only [Option.some.injEq,Prod.mk.injEq] at e;obtain ⟨e1,e2⟩:=e;subst e1 e2);have HMB9:=Lib.hid (HMB1.out.ap.grown HS.out h4 HL10.out.2.1);have hat:=HMAP.out (.agg #[.string sec,.slice Aa na ca,.slice Ah nh ch,.slice Au nu cu]) .nilFunc;have hlk:=(HFM.out.kept (h4.block _ (by have:=HL10.out.1;have:=HL10.out.2.2;omega) (fun e=>by have:=HL10.out.1;injection e;omega))).look_no Tryz.underlying72 (hz10 w9) nm (by have:=HR.out.2.2;omega) hat.1 hat.2;obtain ⟨⟨r0,r1,r2,r3⟩,⟨g0,g1,g2,g3⟩,r4,g4⟩:=HMB9.out.rc;clear h1 h2 h3 h4 hat)
     go_wp2_with fail
     refine leaves_cons (f:=19) (args:=#[.pointer (some ⟨w.heap.size+1,0,none⟩),.pointer (some ⟨w.heap.size+1+1,0,none⟩)]) (by simp) (by simp [go_sem]) ?_
     obtain ⟨W,hW⟩ : ∃ W,(((((w9.setCell ⟨w.heap.size+1,0,none⟩ (.string ⟨#[]⟩)).setCell ⟨w.heap.size+1,1,none⟩ (.slice none 0 0)).setCell ⟨w.heap.size+1,2,none⟩ (.slice none 0 0)).setCell ⟨w.heap.size+1,3,none⟩ (.slice none 0 0)).setCell ⟨w.heap.size+1+1,0,none⟩ (.int .i64 4))=W:=⟨_,rfl⟩
     obtain ⟨⟨z0,z1,z2,z3⟩,z4,hbel,-,-⟩:=(show Ap2 (w.heap.size+1) w9 from ⟨HMB9.out.res,HMB9.out.err⟩).put _ _ _ _ _ hW
     rw [hW]
     clear hW
     refine (apply_idle _ _ _).mono ?_
     rintro e u' w12 ⟨rfl,rfl,rfl⟩
     simp [Leaves,settle,results,Tryz.results7,go_sem,z0,z1,z2,z3,z4]
     exact gotN_zero (hbel _ (Nat.le_succ _) _ HMB9.out.bel)
theorem rdO_txt {lists : Nat} {s : List UInt8} {y : Its.One} {r : List UInt8} (h : rdO lists s=.ok (y,r)) : y.2.2.1.size≤s.length:=by
 unfold rdO at h
 cases s with
 | nil=>simp [rd1] at h
 | cons b s =>
   simp only [rd1] at h
   split at h
   · cases h
   · split at h
     · cases h
     · cases hs : szS 5 0 s with
       | none=>rw [hs] at h;cases h
       | some x =>
         have hl:=szS_len (n:=x.1) (r:=x.2) hs
         rw [hs] at h
         dsimp only at h
         split at h
         · cases h
         · split at h
           · split at h
             · injection h with h
               injection h with h1 _
               subst h1
               show E0.size≤_
               rw [E0_sz]
               exact Nat.zero_le _
             · cases h
           · split at h
             · injection h with h
               injection h with h1 _
               subst h1
               show (x.2.take x.1).toArray.size≤_
               rw [List.size_toArray,List.length_take,List.length_cons]
               omega
             · split at h
               · cases h
               · injection h with h
                 injection h with h1 _
                 subst h1
                 show E0.size≤_
                 rw [E0_sz]
                 exact Nat.zero_le _
theorem rdA_txt {lists : Nat} {s : List UInt8} {l r : Its} {t : ByteArray} (h : rdA lists s=.ok l) (ht : rTxt l=some (t,r)) : t.size≤s.length:=by
 by_cases hs : s=[]
 · subst hs
   rw [rdA_nil] at h
   injection h with h
   subst h
   simp [rTxt,nxt] at ht
 · rw [rdA_cons lists hs] at h
   cases hr : rdO lists s with
   | err e=>rw [hr] at h;cases h
   | ok y =>
     obtain ⟨y,q⟩:=y
     rw [hr] at h
     dsimp only at h
     cases ha : rdA lists q with
     | err e=>rw [ha] at h;cases h
     | ok l' =>
       rw [ha] at h
       injection h with h
       subst h
       have h1:=rdO_txt hr
       unfold rTxt nxt at ht
       dsimp only at ht
       by_cases hk : y.1=1
       · rw [if_pos hk] at ht
         simp only [Option.some.injEq,Prod.mk.injEq] at ht
         rw [← ht.1]
         exact h1
       · rw [if_neg hk] at ht
         cases ht
theorem dec_txt {s : ByteArray} {y : Its.One} {t : ByteArray} {q : Its} (h : decS s=.ok y) (ht : rTxt y.2.2.2=some (t,q)) : t.size≤65536:=by
 unfold decS textMax at h
 split at h
 · cases h
 · rename_i hsz
   cases hr : rdO 0 s.data.toList with
   | err e=>rw [hr] at h;cases h
   | ok x =>
     obtain ⟨y',r⟩:=x
     rw [hr] at h
     dsimp only at h
     split at h
     · injection h with h
       subst h
       rw [← seg_all] at hr
       obtain ⟨ha,n,a2,_,_,_,h5,h6,h7,_,hc⟩:=rdO_inv (Nat.le_refl _) hr
       rcases hc with ⟨_,_,rfl⟩ | ⟨_,rfl⟩ | ⟨_,l,hl,rfl⟩
       · simp [rTxt,nxt] at ht
       · simp [rTxt,nxt] at ht
       · have h8:=rdA_txt hl ht
         rw [seg_len (by omega)] at h8
         omega
     · cases h
theorem wal_ApplyA (sec : ByteArray) (qs : List Az) (hs : List Hz) (us : List Uz) (Aa Ah Au : Option Addr) (na ca nh ch nu cu : Nat) (S : Nat→Prop) (w : World) (hq : qs.length=na) (hn : hs.length=nh) (hu : us.length=nu) (hma : na < 4096) (hmh : nh < 4096) (hmu : nu < 4096) (ho : WalOk qs hs us) (h : WalM w S qs hs us Aa Ah Au) (hS : ∀ g,S g→g < w.heap.size) (s : ByteArray) (hsz : s.size≤10000) : Calls Tryz.prog 7 #[.agg #[.string sec,.slice Aa na ca,.slice Ah nh ch,.slice Au nu cu],.string s] w (GotN w (applR sec qs hs us s)):=by
 unfold applR
 cases hval : validW sec qs hs us with
 | false =>
   rw [if_neg (by decide)]
   exact apply_inv sec qs hs us Aa Ah Au na ca nh ch nu cu S w hq hn hu hma hmh hmu ho h hS s hval
 | true =>
   rw [if_pos rfl]
   cases hdec : decS s with
   | err z=>exact apply_bad sec qs hs us Aa Ah Au na ca nh ch nu cu S w hq hn hu hma hmh hmu ho h hS s z hval hdec
   | ok y =>
     obtain ⟨yk,yn,yt,yl⟩:=y
     dsimp only
     by_cases hk : yk=2
     · subst hk
       rw [if_pos rfl]
       obtain ⟨h1,h2⟩:=dec_ok hdec
       exact apply_list sec qs hs us Aa Ah Au na ca nh ch nu cu S w hq hn hu hma hmh hmu ho h hS s yn yt yl hval hdec (ok_2 h1).1 (by dsimp only at h2;omega) (fun nm r ht=>dec_txt hdec ht)
     · rw [if_neg hk]
       exact apply_kind sec qs hs us Aa Ah Au na ca nh ch nu cu S w hq hn hu hma hmh hmu ho h hS s yk yn yt yl hval hdec hk
structure Ra2 (w : World) (bc : Array Value) (W : World) : Prop where
 one : W.heap[w.heap.size]?=some (.cells bc 27 (0,0))
 res : W.heap[w.heap.size+1]?=some (.cells #[.string ⟨#[]⟩,.slice none 0 0,.slice none 0 0,.slice none 0 0] 27 (0,0))
 bel : Below w.heap.size w W
 size : w.heap.size+2≤W.heap.size
theorem Ra2.start {w : World} {bc : Array Value} : Ra2 w bc ((w.alloc (.cells bc 27)).alloc (.cells #[.string ⟨#[]⟩,.slice none 0 0,.slice none 0 0,.slice none 0 0] 27)):=⟨(two_boxes w _ _).1,(two_boxes w _ _).2,((Below.refl _ _).alloc (Nat.le_refl _) _).alloc (by simp) _,by simp⟩
theorem Ra2.next {w W w' : World} {bc : Array Value} (h : Ra2 w bc W) (hb : Below W.heap.size W w') : Ra2 w bc w':=by
 have hz:=h.size
 exact ⟨(hb.block _ (by omega)).trans h.one,(hb.block _ (by omega)).trans h.res,h.bel.trans (hb.mono (by omega)),Nat.le_trans h.size hb.size⟩
theorem Ra2.rc {w W : World} {bc : Array Value} (h : Ra2 w bc W) : (W.cell? ⟨w.heap.size+1,0,none⟩=some (.string ⟨#[]⟩)∧W.cell? ⟨w.heap.size+1,1,none⟩=some (.slice none 0 0)∧W.cell? ⟨w.heap.size+1,2,none⟩=some (.slice none 0 0)∧W.cell? ⟨w.heap.size+1,3,none⟩=some (.slice none 0 0)) ∧
  (W.frozen? ⟨w.heap.size+1,0,none⟩=false∧W.frozen? ⟨w.heap.size+1,1,none⟩=false∧W.frozen? ⟨w.heap.size+1,2,none⟩=false∧W.frozen? ⟨w.heap.size+1,3,none⟩=false) :=
 ⟨⟨cell_of_row W _ 0 _ _ _ h.res,cell_of_row W _ 1 _ _ _ h.res,cell_of_row W _ 2 _ _ _ h.res,cell_of_row W _ 3 _ _ _ h.res⟩,frozen_of_row W _ 0 _ _ h.res,frozen_of_row W _ 1 _ _ h.res,frozen_of_row W _ 2 _ _ h.res,frozen_of_row W _ 3 _ _ h.res⟩
theorem Ra2.wc {w W : World} {v0 v1 v2 v3 : Value} (h : Ra2 w #[v0,v1,v2,v3] W) : W.cell? ⟨w.heap.size,0,none⟩=some v0∧W.cell? ⟨w.heap.size,1,none⟩=some v1∧W.cell? ⟨w.heap.size,2,none⟩=some v2∧W.cell? ⟨w.heap.size,3,none⟩=some v3 :=
 ⟨cell_of_row W _ 0 _ _ _ h.one,cell_of_row W _ 1 _ _ _ h.one,cell_of_row W _ 2 _ _ _ h.one,cell_of_row W _ 3 _ _ _ h.one⟩
theorem ra_inv (sec : ByteArray) (qs : List Az) (hs : List Hz) (us : List Uz) (Aa Ah Au : Option Addr) (na ca nh ch nu cu : Nat) (S : Nat→Prop) (w : World) (hq : qs.length=na) (hn : hs.length=nh) (hu : us.length=nu) (hma : na < 4096) (hmh : nh < 4096) (hmu : nu < 4096) (ho : WalOk qs hs us) (h : WalM w S qs hs us Aa Ah Au) (hS : ∀ g,S g→g < w.heap.size) (s : ByteArray) (hval : validW sec qs hs us=false) :
  Calls Tryz.prog 8 #[.agg #[.string sec,.slice Aa na ca,.slice Ah nh ch,.slice Au nu cu],.string s] w (GotS S w (Rs.err 3)):=by
 have HV:=Lib.hid (fun W (hb : Below w.heap.size w W)=>r56_Valid sec qs hs us Aa Ah Au na ca nh ch nu cu S W hq hn hu (by omega) (by omega) (by omega) ho.att (h.keep (fun q hq=>hb.cell (hS _ hq))) (fun g hg=>Nat.lt_of_lt_of_le (hS g hg) hb.size))
 rw [hval] at HV
 have H0:=Lib.hid (Ra2.start (w:=w) (bc:=#[.string sec,.slice Aa na ca,.slice Ah nh ch,.slice Au nu cu]))
 obtain ⟨x0,x1,x2,x3⟩:=H0.out.wc
 clear hq hn hu hma hmh hmu ho h hS hval
 go_enter Tryz.func8, Tryz.ntmps8
 go_wp2_with (go_at_call 28;(with_reducible refine (HV.out _ H0.out.bel).mono ?_);rintro e w4 ⟨rfl,hb4⟩;have H4:=Lib.hid (H0.out.next hb4);clear hb4 x0 x1 x2 x3;obtain ⟨⟨r0,r1,r2,r3⟩,g0,g1,g2,g3⟩:=H4.out.rc)
 refine bodyPost_ret (v:=.tuple #[.agg #[.string ⟨#[]⟩,.slice none 0 0,.slice none 0 0,.slice none 0 0],.int .i64 3]) (by simp [results,Tryz.results8,go_sem,r0,r1,r2,r3]) rfl ?_
 exact gotS_zero (res4 H4.out.bel _ _ _ _)
theorem ra_bad (sec : ByteArray) (qs : List Az) (hs : List Hz) (us : List Uz) (Aa Ah Au : Option Addr) (na ca nh ch nu cu : Nat) (S : Nat→Prop) (w : World) (hq : qs.length=na) (hn : hs.length=nh) (hu : us.length=nu) (hma : na < 4096) (hmh : nh < 4096) (hmu : nu < 4096) (ho : WalOk qs hs us) (h : WalM w S qs hs us Aa Ah Au) (hS : ∀ g,S g→g < w.heap.size) (s : ByteArray) (z : Int) (hz : z≠0) (hval : validW sec qs hs us=true) (hdec : decS s=.err z) :
  Calls Tryz.prog 8 #[.agg #[.string sec,.slice Aa na ca,.slice Ah nh ch,.slice Au nu cu],.string s] w (GotS S w (Rs.err 4)):=by
 have HV:=Lib.hid (fun W (hb : Below w.heap.size w W)=>r56_Valid sec qs hs us Aa Ah Au na ca nh ch nu cu S W hq hn hu (by omega) (by omega) (by omega) ho.att (h.keep (fun q hq=>hb.cell (hS _ hq))) (fun g hg=>Nat.lt_of_lt_of_le (hS g hg) hb.size))
 rw [hval] at HV
 have hD:=fun W=>r08_Decode s W
 rw [hdec] at hD
 have HD:=Lib.hid hD
 unfold DcR at HD
 have i1 : (z != 0)=true:=by simp [hz]
 have H0:=Lib.hid (Ra2.start (w:=w) (bc:=#[.string sec,.slice Aa na ca,.slice Ah nh ch,.slice Au nu cu]))
 obtain ⟨x0,x1,x2,x3⟩:=H0.out.wc
 clear hq hn hu hma hmh hmu ho h hS hval hdec hD hz
 go_enter Tryz.func8, Tryz.ntmps8
 go_upto_region 4 with (first
  | (go_at_call 28;(with_reducible refine (HV.out _ H0.out.bel).mono ?_);rintro e w4 ⟨rfl,hb4⟩;have H4:=Lib.hid (H0.out.next hb4);clear hb4 x0 x1 x2 x3)
  | (go_at_call 29;(with_reducible refine (HD.out _).mono ?_);rintro e w5 ⟨rfl,hb5⟩;have H5:=Lib.hid ((H4.out.next hb5).next ((Below.refl _ _).alloc (Nat.le_refl _) (.cells #[.int .i64 0,.string ⟨#[]⟩,.string ⟨#[]⟩,.slice none 0 0] 63)));clear hb5))
 obtain ⟨W6,hW6⟩ : ∃ W,w5.alloc (.cells #[.int .i64 0,.string ⟨#[]⟩,.string ⟨#[]⟩,.slice none 0 0] 63)=W:=⟨_,rfl⟩
 rw [hW6] at H5 ⊢
 clear hW6
 obtain ⟨⟨r0,r1,r2,r3⟩,g0,g1,g2,g3⟩:=H5.out.rc
 go_wp2_with fail
 refine bodyPost_ret (v:=.tuple #[.agg #[.string ⟨#[]⟩,.slice none 0 0,.slice none 0 0,.slice none 0 0],.int .i64 4]) (by simp [results,Tryz.results8,go_sem,r0,r1,r2,r3]) rfl ?_
 exact gotS_zero (res4 H5.out.bel _ _ _ _)
theorem ra_kind (sec : ByteArray) (qs : List Az) (hs : List Hz) (us : List Uz) (Aa Ah Au : Option Addr) (na ca nh ch nu cu : Nat) (S : Nat→Prop) (w : World) (hq : qs.length=na) (hn : hs.length=nh) (hu : us.length=nu) (hma : na < 4096) (hmh : nh < 4096) (hmu : nu < 4096) (ho : WalOk qs hs us) (h : WalM w S qs hs us Aa Ah Au) (hS : ∀ g,S g→g < w.heap.size) (s : ByteArray) (yk : Int) (yn yt : ByteArray) (yl : Its) (hval : validW sec qs hs us=true) (hdec : decS s=.ok (yk,yn,yt,yl)) (hk : yk≠2) :
  Calls Tryz.prog 8 #[.agg #[.string sec,.slice Aa na ca,.slice Ah nh ch,.slice Au nu cu],.string s] w (GotS S w (Rs.err 4)):=by
 have HV:=Lib.hid (fun W (hb : Below w.heap.size w W)=>r56_Valid sec qs hs us Aa Ah Au na ca nh ch nu cu S W hq hn hu (by omega) (by omega) (by omega) ho.att (h.keep (fun q hq=>hb.cell (hS _ hq))) (fun g hg=>Nat.lt_of_lt_of_le (hS g hg) hb.size))
 rw [hval] at HV
 have hD:=fun W=>r08_Decode s W
 rw [hdec] at hD
 have HD:=Lib.hid hD
 unfold DcR at HD
 dsimp only at HD
 have i1 : (yk != 2)=true:=by simp [hk]
 have H0:=Lib.hid (Ra2.start (w:=w) (bc:=#[.string sec,.slice Aa na ca,.slice Ah nh ch,.slice Au nu cu]))
 obtain ⟨x0,x1,x2,x3⟩:=H0.out.wc
 clear hq hn hu hma hmh hmu ho h hS hval hdec hD hk
 go_enter Tryz.func8, Tryz.ntmps8
 go_upto_region 4 with (first
  | (go_at_call 28;(with_reducible refine (HV.out _ H0.out.bel).mono ?_);rintro e w4 ⟨rfl,hb4⟩;have H4:=Lib.hid (H0.out.next hb4);clear hb4 x0 x1 x2 x3)
  | (go_at_call 29;(with_reducible refine (HD.out _).mono ?_);rintro e w5 ⟨A5,c5,rfl,h51,h52,hb5⟩;have H5:=Lib.hid (H4.out.next hb5);have HM5:=Lib.hid (And.intro h51 h52);clear h51 h52 hb5))
 have HI:=Lib.hid (heap_alloc_new w5 (.cells #[.int .i64 yk,.string yn,.string yt,.slice A5 yl.len c5] 63))
 have H6:=Lib.hid (H5.out.next ((Below.refl _ _).alloc (Nat.le_refl _) (.cells #[.int .i64 yk,.string yn,.string yt,.slice A5 yl.len c5] 63)))
 obtain ⟨W6,hW6⟩ : ∃ W,w5.alloc (.cells #[.int .i64 yk,.string yn,.string yt,.slice A5 yl.len c5] 63)=W:=⟨_,rfl⟩
 obtain ⟨b5,hb5⟩ : ∃ b,w5.heap.size=b:=⟨_,rfl⟩
 rw [hW6] at H6 HI ⊢
 rw [hb5] at HI ⊢
 clear hW6 hb5
 have k0:=cell_of_row _ _ 0 _ _ _ HI.out
 obtain ⟨⟨r0,r1,r2,r3⟩,g0,g1,g2,g3⟩:=H6.out.rc
 go_wp2_with fail
 refine bodyPost_ret (v:=.tuple #[.agg #[.string ⟨#[]⟩,.slice none 0 0,.slice none 0 0,.slice none 0 0],.int .i64 4]) (by simp [results,Tryz.results8,go_sem,r0,r1,r2,r3]) rfl ?_
 exact gotS_zero (res4 H6.out.bel _ _ _ _)
theorem RaB.start {w w4 w5 : World} {bc : Array Value} {A5 : Option Addr} {c5 n : Nat} {yl : Its} {it : Obj} (h4 : Ra2 w bc w4) (h5 : Ra2 w bc w5) (hn : yl.len=n) (hc : yl.len≤c5) (hs : SlK w5 (fun g=>w4.heap.size≤g∧g < w5.heap.size) A5 yl) (hok : okI yl=true) (hsz : yl.size≤10000) :
  RaB w bc (w5.heap.size+1) (fun g=>w4.heap.size≤g∧g < w5.heap.size) (yl,false) ((w5.alloc it).alloc (.cells #[.slice A5 n c5,.bool false] 82)):=by
 subst hn
 have hal : Below w5.heap.size w5 ((w5.alloc it).alloc (.cells #[.slice A5 yl.len c5,.bool false] 82)):=((Below.refl _ _).alloc (Nat.le_refl _) _).alloc (by simp) _
 have h6:=h5.next hal
 have z4:=h4.size
 have z5:=h5.size
 exact ⟨h6.one,h6.res,h6.bel,by omega,by simp,⟨A5,c5,hc,hs.below hal (fun g hg=>hg.2),(two_boxes w5 _ _).2⟩,hok,hsz,fun g hg=>⟨by omega,by omega⟩⟩
theorem RaB.two {w W : World} {bc : Array Value} {rb : Nat} {T : Nat→Prop} {s : Its × Bool} (h : RaB w bc rb T s W) : Ra2 w bc W:=⟨h.one,h.res,h.bel,by have:=h.lo;have:=h.hi;omega⟩
structure RaE (w : World) (bc : Array Value) (rb : Nat) (T : Nat→Prop) (s : Its × Bool) (W : World) : Prop where
 two : Ra2 w bc W
 inn : InQ W rb T s.1 s.2
 far : ∀ g,T g→g < W.heap.size
section
variable {w W w' : World} {bc : Array Value} {rb : Nat} {T : Nat→Prop} {s : Its × Bool}
theorem RaE.next (h : RaE w bc rb T s W) (hb : Below W.heap.size W w') : RaE w bc rb T s w':=⟨h.two.next hb,h.inn.gb (gb_below (row:=none) hb) (fun g hg=>⟨h.far g hg,by simp⟩) (by simp),fun g hg=>Nat.lt_of_lt_of_le (h.far g hg) hb.size⟩
theorem RaB.rdE {s' : Its × Bool} (h : RaB w bc rb T s W) (hg : W.grownBy w' (some rb)) (hi : InQ w' rb T s'.1 s'.2) : RaE w bc rb T s' w':=by
 have h1:=h.lo
 have h2:=h.hi
 exact ⟨⟨(hg.block _ (by omega) (fun e=>by injection e;omega)).trans h.one,(hg.block _ (by omega) (fun e=>by injection e;omega)).trans h.res,h.bel.trans (below_grown hg (by omega) (fun g e=>by injection e;omega)),by have:=hg.size;omega⟩,hi,fun g hgs=>Nat.lt_of_lt_of_le (h.far g hgs).1 hg.size⟩
theorem ra_next (k : Int) (p : Its.One × Its × Bool) (e : nxQ k s.1 s.2=p) (h : RaB w bc rb T s W) : Calls Tryz.prog 30 #[.pointer (some ⟨rb,0,none⟩),.int .i64 k] W fun o w'=>∃ A c,o=.returned (.agg #[.int .i64 p.1.1,.string p.1.2.1,.string p.1.2.2.1,.slice A p.1.2.2.2.len c])∧RaB w bc rb T p.2 w':=by
 subst e
 refine (r56_next k s.1 s.2 rb T W h.inn (by have:=Its.len_size s.1;have:=h.sz;omega) h.far).mono ?_
 rintro o w' ⟨A,c,rfl,h1,h2,h3,h4⟩
 have h5:=nxQ_ok k s.1 s.2 _ h.ok h.sz
 exact ⟨A,c,rfl,h.rd h4 h3 h5.1.1 h5.1.2⟩
theorem ra_nextE (k : Int) (p : Its.One × Its × Bool) (e : nxQ k s.1 s.2=p) (h : RaB w bc rb T s W) : Calls Tryz.prog 30 #[.pointer (some ⟨rb,0,none⟩),.int .i64 k] W fun o w'=>∃ A c,o=.returned (.agg #[.int .i64 p.1.1,.string p.1.2.1,.string p.1.2.2.1,.slice A p.1.2.2.2.len c])∧RaE w bc rb T p.2 w':=by
 subst e
 refine (r56_next k s.1 s.2 rb T W h.inn (by have:=Its.len_size s.1;have:=h.sz;omega) h.far).mono ?_
 rintro o w' ⟨A,c,rfl,h1,h2,h3,h4⟩
 exact ⟨A,c,rfl,h.rdE h4 h3⟩
theorem ra_number (p : Int × Its × Bool) (e : nbQ s.1 s.2=p) (h : RaB w bc rb T s W) : Calls Tryz.prog 37 #[.pointer (some ⟨rb,0,none⟩)] W fun o w'=>o=.returned (.int .i64 p.1)∧RaB w bc rb T p.2 w':=by
 subst e
 refine (r56_number s.1 s.2 rb T W h.inn h.ok h.sz h.far).mono ?_
 rintro o w' ⟨rfl,h3,h4⟩
 have h5:=nbQ_ok s.1 s.2 _ h.ok h.sz
 exact ⟨rfl,h.rd h4 h3 h5.1 h5.2⟩
theorem ra_asked (p : Az × Its × Bool) (e : askedS s=p) (h : RaB w bc rb T s W) : Calls Tryz.prog 33 #[.pointer (some ⟨rb,0,none⟩)] W fun o w'=>o=.returned (.agg #[.string p.1.1,.string p.1.2.1,.string p.1.2.2.1,.string p.1.2.2.2.1,.string p.1.2.2.2.2])∧RaE w bc rb T p.2 w':=by
 subst e
 refine (r56_asked s rb T W h.inn h.ok h.sz h.far).mono ?_
 rintro o w' ⟨rfl,h3,h4⟩
 exact ⟨rfl,h.rdE h4 h3⟩
theorem ra_used (p : Uz × Its × Bool) (e : usedS s=p) (h : RaB w bc rb T s W) : Calls Tryz.prog 39 #[.pointer (some ⟨rb,0,none⟩)] W fun o w'=>o=.returned (.agg #[.string p.1.1,.int .i64 p.1.2.1,.int .i64 p.1.2.2])∧RaE w bc rb T p.2 w':=by
 subst e
 refine (r56_used s rb T W h.inn h.ok h.sz h.far).mono ?_
 rintro o w' ⟨rfl,h3,h4⟩
 exact ⟨rfl,h.rdE h4 h3⟩
theorem ra_held (p : Hz × Its × Bool) (e : heldS s=p) (h : RaB w bc rb T s W) : Calls Tryz.prog 35 #[.pointer (some ⟨rb,0,none⟩)] W fun o w'=>∃ A c,o=.returned (valH p.1 A p.1.att.length c)∧RowC w' (fun g=>w.heap.size+2≤g∧g < w'.heap.size) A p.1.att.length (cellsN p.1.att)∧RaE w bc rb T p.2 w':=by
 subst e
 refine (r56_held s rb T W h.inn h.ok h.sz h.far).mono ?_
 rintro o w' ⟨A,c,rfl,h2,h3,h4⟩
 have h5:=h.lo
 have h6:=h.hi
 exact ⟨A,c,rfl,h2.mono (fun g hg=>⟨by omega,hg.2⟩),h.rdE h4 h3⟩
theorem ra_wrong (b : Bool) (e : wrongQ s=b) (h : RaE w bc rb T s W) : Calls Tryz.prog 31 #[.pointer (some ⟨rb,0,none⟩)] W fun o w'=>o=.returned (.bool b)∧W=w':=by
 subst e
 exact r56_wrong s.1 s.2 rb T W h.inn
end
theorem ra_none (sec : ByteArray) (qs : List Az) (hs : List Hz) (us : List Uz) (Aa Ah Au : Option Addr) (na ca nh ch nu cu : Nat) (S : Nat→Prop) (w : World) (hq : qs.length=na) (hn : hs.length=nh) (hu : us.length=nu) (hma : na < 4096) (hmh : nh < 4096) (hmu : nu < 4096) (ho : WalOk qs hs us) (h : WalM w S qs hs us Aa Ah Au) (hS : ∀ g,S g→g < w.heap.size) (s : ByteArray) (yn yt : ByteArray) (yl : Its) (hval : validW sec qs hs us=true) (hdec : decS s=.ok (2,yn,yt,yl)) (hok : okI yl=true) (hsz : yl.size≤10000) (p1 : Its.One × Its × Bool) (e1 : nxQ 1 yl false=p1)
  (n0 : (p1.1.2.2.1.toList==([115,101,99,114,101,116] : List UInt8))=false)
  (n1 : (p1.1.2.2.1.toList==([97,115,107,101,100] : List UInt8))=false)
  (n2 : (p1.1.2.2.1.toList==([104,101,108,100] : List UInt8))=false)
  (n3 : (p1.1.2.2.1.toList==([114,101,110,101,119,101,100] : List UInt8))=false)
  (n4 : (p1.1.2.2.1.toList==([117,115,101,100] : List UInt8))=false)
  (n5 : (p1.1.2.2.1.toList==([107,101,112,116] : List UInt8))=false)
  (n6 : (p1.1.2.2.1.toList==([99,111,117,110,116,101,100] : List UInt8))=false)
   :
  Calls Tryz.prog 8 #[.agg #[.string sec,.slice Aa na ca,.slice Ah nh ch,.slice Au nu cu],.string s] w (GotS S w (Rs.err 4)):=by
 have HV:=Lib.hid (fun W (hb : Below w.heap.size w W)=>r56_Valid sec qs hs us Aa Ah Au na ca nh ch nu cu S W hq hn hu (by omega) (by omega) (by omega) ho.att (h.keep (fun q hq=>hb.cell (hS _ hq))) (fun g hg=>Nat.lt_of_lt_of_le (hS g hg) hb.size))
 rw [hval] at HV
 have hD:=fun W=>r08_Decode s W
 rw [hdec] at hD
 have HD:=Lib.hid hD
 unfold DcR at HD
 dsimp only at HD
 have HS:=Lib.hid hS
 have HWM:=Lib.hid (fun W (hb : Below w.heap.size w W)=>h.keep (fun q hq=>hb.cell (hS _ hq)))
 have H0:=Lib.hid (Ra2.start (w:=w) (bc:=#[.string sec,.slice Aa na ca,.slice Ah nh ch,.slice Au nu cu]))
 obtain ⟨x0,x1,x2,x3⟩:=H0.out.wc
 have E1:=Lib.hid e1
 have HRA:=Lib.hid (fun (w4 w5 : World) (A5 : Option Addr) (c5 : Nat) (it : Obj) (h4 : Ra2 w #[.string sec,.slice Aa na ca,.slice Ah nh ch,.slice Au nu cu] w4) (h5 : Ra2 w #[.string sec,.slice Aa na ca,.slice Ah nh ch,.slice Au nu cu] w5) (hc : yl.len≤c5) (hs5 : SlK w5 (fun g=>w4.heap.size≤g∧g < w5.heap.size) A5 yl)=>RaB.start (it:=it) h4 h5 rfl hc hs5 hok hsz)
 have hf1:=fld_1
 have hf2:=fld_2
 clear hq hn hu hma hmh hmu ho h hS hval hdec hD e1 hok hsz
 go_enter Tryz.func8, Tryz.ntmps8
 go_upto_region 4 with (first
  | (go_at_call 28;(with_reducible refine (HV.out _ H0.out.bel).mono ?_);rintro e w4 ⟨rfl,hb4⟩;have H4:=Lib.hid (H0.out.next hb4);clear hb4 x0 x1 x2 x3)
  | (go_at_call 29;(with_reducible refine (HD.out _).mono ?_);rintro e w5 ⟨A5,c5,rfl,h51,h52,hb5⟩;have H5:=Lib.hid (H4.out.next hb5);have HM5:=Lib.hid (And.intro h51 h52);clear h51 h52 hb5))
 have HI:=Lib.hid (heap_alloc_new w5 (.cells #[.int .i64 2,.string yn,.string yt,.slice A5 yl.len c5] 63))
 have HR:=Lib.hid (HRA.out w4 w5 A5 c5 (.cells #[.int .i64 2,.string yn,.string yt,.slice A5 yl.len c5] 63) H4.out H5.out HM5.out.1 HM5.out.2)
 have k0:=cell_of_row _ _ 0 _ _ _ HI.out
 have k3:=cell_of_row _ _ 3 _ _ _ HI.out
 obtain ⟨T,hT⟩ : ∃ T : Nat→Prop,(fun g=>w4.heap.size≤g∧g < w5.heap.size)=T:=⟨_,rfl⟩
 rw [hT] at HR
 clear hT HM5 HRA
 go_upto_region 7 with fail
 obtain ⟨W7,hW7⟩ : ∃ W,(w5.alloc (.cells #[.int .i64 2,.string yn,.string yt,.slice A5 yl.len c5] 63)).alloc (.cells #[.slice A5 yl.len c5,.bool false] 82)=W:=⟨_,rfl⟩
 obtain ⟨rb,hrb⟩ : ∃ b,w5.heap.size+1=b:=⟨_,rfl⟩
 rw [hW7,hrb] at HR
 rw [hW7,hrb]
 clear hW7 hrb HI k0 k3
 have HC1:=Lib.hid (ra_next 1 p1 E1.out HR.out)
 go_upto_region 8 with (go_at_call 30;(with_reducible refine HC1.out.mono ?_);rintro o w8 ⟨A8,c8,rfl,h8⟩;have HR8:=Lib.hid h8;clear h8 HC1)
 obtain ⟨⟨r0,r1,r2,r3⟩,g0,g1,g2,g3⟩:=HR8.out.rc
 go_wp2_with fail
 refine bodyPost_ret (v:=.tuple #[.agg #[.string ⟨#[]⟩,.slice none 0 0,.slice none 0 0,.slice none 0 0],.int .i64 4]) (by simp [results,Tryz.results8,go_sem,r0,r1,r2,r3]) rfl ?_
 exact gotS_zero (res4 HR8.out.bel _ _ _ _)
theorem ra_secret (sec : ByteArray) (qs : List Az) (hs : List Hz) (us : List Uz) (Aa Ah Au : Option Addr) (na ca nh ch nu cu : Nat) (S : Nat→Prop) (w : World) (hq : qs.length=na) (hn : hs.length=nh) (hu : us.length=nu) (hma : na < 4096) (hmh : nh < 4096) (hmu : nu < 4096) (ho : WalOk qs hs us) (h : WalM w S qs hs us Aa Ah Au) (hS : ∀ g,S g→g < w.heap.size) (s : ByteArray) (yn yt : ByteArray) (yl : Its) (hval : validW sec qs hs us=true) (hdec : decS s=.ok (2,yn,yt,yl)) (hok : okI yl=true) (hsz : yl.size≤10000) (p1 : Its.One × Its × Bool) (e1 : nxQ 1 yl false=p1)
  (n0 : (p1.1.2.2.1.toList==([115,101,99,114,101,116] : List UInt8))=true)
   :
  Calls Tryz.prog 8 #[.agg #[.string sec,.slice Aa na ca,.slice Ah nh ch,.slice Au nu cu],.string s] w (GotS S w ((if wrongQ (nxQ 0 p1.2.1 p1.2.2).2=true then Rs.err 4 else Rs.of (nxQ 0 p1.2.1 p1.2.2).1.2.1 [] [] []))):=by
 have HV:=Lib.hid (fun W (hb : Below w.heap.size w W)=>r56_Valid sec qs hs us Aa Ah Au na ca nh ch nu cu S W hq hn hu (by omega) (by omega) (by omega) ho.att (h.keep (fun q hq=>hb.cell (hS _ hq))) (fun g hg=>Nat.lt_of_lt_of_le (hS g hg) hb.size))
 rw [hval] at HV
 have hD:=fun W=>r08_Decode s W
 rw [hdec] at hD
 have HD:=Lib.hid hD
 unfold DcR at HD
 dsimp only at HD
 have HS:=Lib.hid hS
 have HWM:=Lib.hid (fun W (hb : Below w.heap.size w W)=>h.keep (fun q hq=>hb.cell (hS _ hq)))
 have H0:=Lib.hid (Ra2.start (w:=w) (bc:=#[.string sec,.slice Aa na ca,.slice Ah nh ch,.slice Au nu cu]))
 obtain ⟨x0,x1,x2,x3⟩:=H0.out.wc
 have E1:=Lib.hid e1
 have HRA:=Lib.hid (fun (w4 w5 : World) (A5 : Option Addr) (c5 : Nat) (it : Obj) (h4 : Ra2 w #[.string sec,.slice Aa na ca,.slice Ah nh ch,.slice Au nu cu] w4) (h5 : Ra2 w #[.string sec,.slice Aa na ca,.slice Ah nh ch,.slice Au nu cu] w5) (hc : yl.len≤c5) (hs5 : SlK w5 (fun g=>w4.heap.size≤g∧g < w5.heap.size) A5 yl)=>RaB.start (it:=it) h4 h5 rfl hc hs5 hok hsz)
 have hf1:=fld_1
 have hf2:=fld_2
 obtain ⟨p2,hp2⟩ : ∃ p,nxQ 0 p1.2.1 p1.2.2=p:=⟨_,rfl⟩
 obtain ⟨b,hb⟩ : ∃ b,wrongQ p2.2=b:=⟨_,rfl⟩
 rw [hp2,hb]
 have E2:=Lib.hid hp2
 have EB:=Lib.hid hb
 have HNW:=Lib.hid (fun W=>r56_New p2.1.2.1 S W)
 clear hq hn hu hma hmh hmu ho h hS hval hdec hD e1 hok hsz hp2 hb
 go_enter Tryz.func8, Tryz.ntmps8
 go_upto_region 4 with (first
  | (go_at_call 28;(with_reducible refine (HV.out _ H0.out.bel).mono ?_);rintro e w4 ⟨rfl,hb4⟩;have H4:=Lib.hid (H0.out.next hb4);clear hb4 x0 x1 x2 x3)
  | (go_at_call 29;(with_reducible refine (HD.out _).mono ?_);rintro e w5 ⟨A5,c5,rfl,h51,h52,hb5⟩;have H5:=Lib.hid (H4.out.next hb5);have HM5:=Lib.hid (And.intro h51 h52);clear h51 h52 hb5))
 have HI:=Lib.hid (heap_alloc_new w5 (.cells #[.int .i64 2,.string yn,.string yt,.slice A5 yl.len c5] 63))
 have HR:=Lib.hid (HRA.out w4 w5 A5 c5 (.cells #[.int .i64 2,.string yn,.string yt,.slice A5 yl.len c5] 63) H4.out H5.out HM5.out.1 HM5.out.2)
 have k0:=cell_of_row _ _ 0 _ _ _ HI.out
 have k3:=cell_of_row _ _ 3 _ _ _ HI.out
 obtain ⟨T,hT⟩ : ∃ T : Nat→Prop,(fun g=>w4.heap.size≤g∧g < w5.heap.size)=T:=⟨_,rfl⟩
 rw [hT] at HR
 clear hT HM5 HRA
 go_upto_region 7 with fail
 obtain ⟨W7,hW7⟩ : ∃ W,(w5.alloc (.cells #[.int .i64 2,.string yn,.string yt,.slice A5 yl.len c5] 63)).alloc (.cells #[.slice A5 yl.len c5,.bool false] 82)=W:=⟨_,rfl⟩
 obtain ⟨rb,hrb⟩ : ∃ b,w5.heap.size+1=b:=⟨_,rfl⟩
 rw [hW7,hrb] at HR
 rw [hW7,hrb]
 clear hW7 hrb HI k0 k3
 have HC1:=Lib.hid (ra_next 1 p1 E1.out HR.out)
 go_upto_region 8 with (go_at_call 30;(with_reducible refine HC1.out.mono ?_);rintro o w8 ⟨A8,c8,rfl,h8⟩;have HR8:=Lib.hid h8;clear h8 HC1)
 have HC2:=Lib.hid (ra_nextE 0 p2 E2.out HR8.out)
 go_upto_region 10 with (go_at_call 30;(with_reducible refine HC2.out.mono ?_);rintro o w9 ⟨A9,c9,rfl,h9⟩;have HE:=Lib.hid h9;have HW:=Lib.hid (ra_wrong b EB.out h9);clear h9 HC2)
 cases b with
 | true =>
   rw [if_pos rfl]
   go_wp2_with (go_at_call 31;(with_reducible refine HW.out.mono ?_);rintro o w10 ⟨rfl,rfl⟩;obtain ⟨⟨r0,r1,r2,r3⟩,g0,g1,g2,g3⟩:=HE.out.two.rc)
   refine bodyPost_ret (v:=.tuple #[.agg #[.string ⟨#[]⟩,.slice none 0 0,.slice none 0 0,.slice none 0 0],.int .i64 4]) (by simp [results,Tryz.results8,go_sem,r0,r1,r2,r3]) rfl ?_
   exact gotS_zero (res4 HE.out.two.bel _ _ _ _)
 | false =>
   rw [if_neg (by decide)]
   go_wp2_with (first
    | (go_at_call 31;(with_reducible refine HW.out.mono ?_);rintro o w10 ⟨rfl,rfl⟩;obtain ⟨⟨r0,r1,r2,r3⟩,g0,g1,g2,g3⟩:=HE.out.two.rc)
    | (go_at_call 32;(with_reducible refine (HNW.out _).mono ?_);rintro o w11 ⟨rfl,hb11⟩;have HE2:=Lib.hid (HE.out.next hb11);obtain ⟨⟨r0,r1,r2,r3⟩,g0,g1,g2,g3⟩:=HE2.out.two.rc;clear hb11))
   refine bodyPost_ret (v:=.tuple #[.agg #[.string p2.1.2.1,.slice none 0 0,.slice none 0 0,.slice none 0 0],.int .i64 0]) (by simp [results,Tryz.results8,go_sem,r0,r1,r2,r3]) rfl ?_
   exact ⟨none,0,none,0,none,0,rfl,WalM.nil_,res4 HE2.out.two.bel _ _ _ _⟩
end Go.Proofs.YtjhlddlocpkhkaaGreat
