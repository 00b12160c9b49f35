/- Encoding: Read, Decode where they read. Encoding: Decode where it reads. Wallet: words for Apply: its map of effects, its deferred call, its boxes. -/
import Derived.Test.YtjhlddlocpkhkaaGreatWhYc
import Derived.Defers
import Derived.Recover
import Derived.Laws.Panics
import Derived.Lib.ByteType
import Derived.Test.YtjhlddlocpkhkaaGreatWhJ19
import Derived.Test.YtjhlddlocpkhkaaGreatWhXk
namespace Go.Proofs.YtjhlddlocpkhkaaGreat
open Go.RowKit
set_option maxRecDepth 100000
set_option linter.unusedVariables false
set_option maxHeartbeats 8000000
theorem read_idle (p q r : Option Addr) (w : World) :
  CallsD Tryz.prog 91 #[.pointer p,.pointer q,.pointer r] .returning w fun e u' w'=>e=.returned (.tuple #[])∧u'=.returning∧w'=w:=by
 have hnn : ∀ w,(binOp .neq 20 .nilIface .nilIface).run Tryz.prog w=.ok (.bool false) w:=fun w=>Lib.run_neq_nil_nil w Tryz.underlying20
 refine callsD_of_wpS Tryz.func91 rfl fun c₀ cs hu=>?_
 apply wpS_seq
 apply wpS_region
 simp [wpOpsS,go_sem,recoverD,hu,Tryz.ntmps91,Exit.thenS]
 apply wpS_seq
 apply wpS_region
 simp [wpOpsS,go_sem,recoverD,hu,hnn,Exit.thenS]
 refine wpS_cond (t:=false) (by simp [Act.eval,Array.replicate]) ?_
 simp only [Bool.false_eq_true,if_false]
 refine wpS_of_wp (wp_skip ?_)
 cases c₀
 simp_all [bodyPostS,results,Tryz.results91]
structure RdAt (w : World) (s : ByteArray) (a : Nat) (k : Int) (n t : ByteArray) (A : Option Addr) (ln c : Nat) (wx : World) : Prop where
 rd : RdB s a (w.heap.size+1+1+1) wx
 it : wx.heap[w.heap.size]?=some (.cells #[.int .i64 k,.string n,.string t,.slice A ln c] 63 (0,0))
 num : wx.heap[w.heap.size+1]?=some (.cells #[.int .i64 0] 3 (0,0))
 err : wx.heap[w.heap.size+1+1]?=some (.cells #[.int .i64 0] 30 (0,0))
 bel : Below w.heap.size w wx
 size : w.heap.size+4≤wx.heap.size
section
variable {w wx w' : World} {s : ByteArray} {a : Nat} {k : Int} {n t : ByteArray} {A : Option Addr} {ln c : Nat}
theorem RdAt.start : RdAt w s 0 0 ⟨#[]⟩ ⟨#[]⟩ none 0 0 ((((w.alloc (.cells #[.int .i64 0,.string ⟨#[]⟩,.string ⟨#[]⟩,.slice none 0 0] 63)).alloc (.cells #[.int .i64 0] 3)).alloc (.cells #[.int .i64 0] 30)).alloc (.cells #[.string s,.int .i64 0] 145)):=by
 have e0:=heap_alloc_new w (.cells #[.int .i64 0,.string ⟨#[]⟩,.string ⟨#[]⟩,.slice none 0 0] 63)
 have e1:=heap_alloc_new (w.alloc (.cells #[.int .i64 0,.string ⟨#[]⟩,.string ⟨#[]⟩,.slice none 0 0] 63)) (.cells #[.int .i64 0] 3)
 have e2:=heap_alloc_new ((w.alloc (.cells #[.int .i64 0,.string ⟨#[]⟩,.string ⟨#[]⟩,.slice none 0 0] 63)).alloc (.cells #[.int .i64 0] 3)) (.cells #[.int .i64 0] 30)
 have e3:=heap_alloc_new (((w.alloc (.cells #[.int .i64 0,.string ⟨#[]⟩,.string ⟨#[]⟩,.slice none 0 0] 63)).alloc (.cells #[.int .i64 0] 3)).alloc (.cells #[.int .i64 0] 30)) (.cells #[.string s,.int .i64 0] 145)
 simp only [World.size_alloc] at e1 e2 e3
 refine ⟨e3,?_,?_,?_,(((((Below.refl _ _).alloc (Nat.le_refl _) _).alloc (by simp) _).alloc (by simp only [World.size_alloc];omega) _).alloc (by simp only [World.size_alloc];omega) _),by simp only [World.size_alloc];omega⟩
 · exact (Below.heap_alloc _ _ _ (by simp only [World.size_alloc];omega)).trans ((Below.heap_alloc _ _ _ (by simp only [World.size_alloc];omega)).trans ((Below.heap_alloc _ _ _ (by simp only [World.size_alloc];omega)).trans e0))
 · exact (Below.heap_alloc _ _ _ (by simp only [World.size_alloc];omega)).trans ((Below.heap_alloc _ _ _ (by simp only [World.size_alloc];omega)).trans e1)
 · exact (Below.heap_alloc _ _ _ (by simp only [World.size_alloc];omega)).trans e2
theorem RdAt.read (h : RdAt w s a k n t A ln c wx) {a' : Nat} (hr : RdB s a' (w.heap.size+1+1+1) w') (hg : wx.grownBy w' (some (w.heap.size+1+1+1))) : RdAt w s a' k n t A ln c w' :=
 have hz:=h.size
 ⟨hr,(hg.block _ (by omega) (fun e=>by injection e;omega)).trans h.it,(hg.block _ (by omega) (fun e=>by injection e;omega)).trans h.num,(hg.block _ (by omega) (fun e=>by injection e;omega)).trans h.err,
  h.bel.trans (below_grown hg (by omega) (fun g hg=>by injection hg;omega)),Nat.le_trans h.size hg.size⟩
theorem RdAt.put {k' : Int} {n' t' : ByteArray} {A' : Option Addr} {ln' c' : Nat} (h : RdAt w s a k n t A ln c wx) :
  RdAt w s a k' n' t' A' ln' c' ((((wx.setCell ⟨w.heap.size,0,none⟩ (.int .i64 k')).setCell ⟨w.heap.size,1,none⟩ (.string n')).setCell ⟨w.heap.size,2,none⟩ (.string t')).setCell ⟨w.heap.size,3,none⟩ (.slice A' ln' c')):=by
 have o : ∀ g,g≠w.heap.size→((((wx.setCell ⟨w.heap.size,0,none⟩ (.int .i64 k')).setCell ⟨w.heap.size,1,none⟩ (.string n')).setCell ⟨w.heap.size,2,none⟩ (.string t')).setCell ⟨w.heap.size,3,none⟩ (.slice A' ln' c')).heap[g]?=wx.heap[g]?:=fun g hg=>by
  rw [heap_setCell_other _ _ _ _ hg,heap_setCell_other _ _ _ _ hg,heap_setCell_other _ _ _ _ hg,heap_setCell_other _ _ _ _ hg]
 refine ⟨(o _ (by omega)).trans h.rd,?_,(o _ (by omega)).trans h.num,(o _ (by omega)).trans h.err,(((h.bel.setCell (p:=⟨w.heap.size,0,none⟩) (Nat.le_refl _) _).setCell (p:=⟨w.heap.size,1,none⟩) (Nat.le_refl _) _).setCell (p:=⟨w.heap.size,2,none⟩) (Nat.le_refl _) _).setCell (p:=⟨w.heap.size,3,none⟩) (Nat.le_refl _) _,by simpa using h.size⟩
 have e0:=heap_setCell_same wx w.heap.size 0 _ _ (.int .i64 k') h.it
 have e1:=heap_setCell_same _ w.heap.size 1 _ _ (.string n') e0
 have e2:=heap_setCell_same _ w.heap.size 2 _ _ (.string t') e1
 have e3:=heap_setCell_same _ w.heap.size 3 _ _ (.slice A' ln' c') e2
 exact e3
theorem RdAt.cells (h : RdAt w s a k n t A ln c wx) : ((wx.cell? ⟨w.heap.size+1+1+1,0,none⟩=some (.string s)∧wx.cell? ⟨w.heap.size+1+1+1,1,none⟩=some (.int .i64 (a : Int)))) ∧
  (wx.cell? ⟨w.heap.size,0,none⟩=some (.int .i64 k)∧wx.cell? ⟨w.heap.size,1,none⟩=some (.string n)∧wx.cell? ⟨w.heap.size,2,none⟩=some (.string t)∧wx.cell? ⟨w.heap.size,3,none⟩=some (.slice A ln c)) ∧
  (wx.frozen? ⟨w.heap.size,0,none⟩=false∧wx.frozen? ⟨w.heap.size,1,none⟩=false∧wx.frozen? ⟨w.heap.size,2,none⟩=false∧wx.frozen? ⟨w.heap.size,3,none⟩=false) ∧
  (wx.cell? ⟨w.heap.size+1,0,none⟩=some (.int .i64 0)∧wx.frozen? ⟨w.heap.size+1,0,none⟩=false)∧(wx.cell? ⟨w.heap.size+1+1,0,none⟩=some (.int .i64 0)∧wx.frozen? ⟨w.heap.size+1+1,0,none⟩=false) :=
 ⟨h.rd.cells.1,⟨cell_of_row wx _ 0 _ _ _ h.it,cell_of_row wx _ 1 _ _ _ h.it,cell_of_row wx _ 2 _ _ _ h.it,cell_of_row wx _ 3 _ _ _ h.it⟩,⟨frozen_of_row wx _ 0 _ _ h.it,frozen_of_row wx _ 1 _ _ h.it,frozen_of_row wx _ 2 _ _ h.it,frozen_of_row wx _ 3 _ _ h.it⟩,⟨cell_of_row wx _ 0 _ _ _ h.num,frozen_of_row wx _ 0 _ _ h.num⟩,⟨cell_of_row wx _ 0 _ _ _ h.err,frozen_of_row wx _ 0 _ _ h.err⟩⟩
end
section
variable {w wx : World} {s : ByteArray} {a : Nat} {k : Int} {n t : ByteArray} {A : Option Addr} {ln c : Nat}
theorem RdAt.fin (h : RdAt w s a k n t A ln c wx) (z : Int) {W : World} (hW : ((wx.setCell ⟨w.heap.size+1,0,none⟩ (.int .i64 z)).setCell ⟨w.heap.size+1+1,0,none⟩ (.int .i64 0)).drew=W) :
  (W.cell? ⟨w.heap.size,0,none⟩=some (.int .i64 k)∧W.cell? ⟨w.heap.size,1,none⟩=some (.string n)∧W.cell? ⟨w.heap.size,2,none⟩=some (.string t)∧W.cell? ⟨w.heap.size,3,none⟩=some (.slice A ln c))∧W.cell? ⟨w.heap.size+1,0,none⟩=some (.int .i64 z)∧W.cell? ⟨w.heap.size+1+1,0,none⟩=some (.int .i64 0)∧Below w.heap.size w W∧W.heap.size=wx.heap.size∧(∀ p : Addr,w.heap.size+4≤p.block→W.cell? p=wx.cell? p):=by
 subst hW
 have o : ∀ g,g≠w.heap.size+1→g≠w.heap.size+1+1→((wx.setCell ⟨w.heap.size+1,0,none⟩ (.int .i64 z)).setCell ⟨w.heap.size+1+1,0,none⟩ (.int .i64 0)).heap[g]?=wx.heap[g]?:=fun g h1 h2=>by
  rw [heap_setCell_other _ _ _ _ h2,heap_setCell_other _ _ _ _ h1]
 have hit:=(o w.heap.size (by omega) (by omega)).trans h.it
 have hn:=(heap_setCell_other _ ⟨w.heap.size+1+1,0,none⟩ _ (.int .i64 0) (show w.heap.size+1≠w.heap.size+1+1 by omega)).trans (heap_setCell_same wx (w.heap.size+1) 0 _ _ (.int .i64 z) h.num)
 have he:=heap_setCell_same (wx.setCell ⟨w.heap.size+1,0,none⟩ (.int .i64 z)) (w.heap.size+1+1) 0 _ _ (.int .i64 0) ((heap_setCell_other _ _ _ _ (show w.heap.size+1+1≠w.heap.size+1 by omega)).trans h.err)
 refine ⟨⟨cell_of_row _ _ 0 _ _ _ hit,cell_of_row _ _ 1 _ _ _ hit,cell_of_row _ _ 2 _ _ _ hit,cell_of_row _ _ 3 _ _ _ hit⟩,cell_of_row _ _ 0 _ _ _ hn,cell_of_row _ _ 0 _ _ _ he,((h.bel.setCell (p:=⟨w.heap.size+1,0,none⟩) (Nat.le_succ _) _).setCell (p:=⟨w.heap.size+1+1,0,none⟩) (Nat.le_add_right _ 2) _).drew,?_,fun p hp=>World.cell?_of_block (o _ (by omega) (by omega))⟩
 show ((wx.setCell ⟨w.heap.size+1,0,none⟩ (.int .i64 z)).setCell ⟨w.heap.size+1+1,0,none⟩ (.int .i64 0)).heap.size=_
 simp
end
def onlyM (Q : Exit→Act→World→Prop) : Exit→Act→World→Prop
 | .normal,a,w=>Q .normal a w
 | _,_,_=>False
theorem only_m {P : Program} {c : Code} {Q : Exit→Act→World→Prop} {a : Act} {w : World} (h : c.wp P (onlyM Q) a w) : c.wp P Q a w:=by
 refine wp_mono h ?_
 rintro e a w h
 cases e<;>first | exact h | exact h.elim
def ReadGot (w : World) (s : ByteArray) (y : Its.One) (r : List UInt8) (o : Ending) (w' : World) : Prop :=
 ∃ A c a3,o=.returned (.tuple #[.agg #[.int .i64 y.1,.string y.2.1,.string y.2.2.1,.slice A y.2.2.2.len c],.int .i64 ((a3 : Nat) : Int),.int .i64 0])∧r=seg s a3 s.size∧a3≤s.size∧y.2.2.2.len≤c∧SlK w' (fun g=>w.heap.size≤g∧g < w'.heap.size) A y.2.2.2∧Below w.heap.size w w'
theorem enc_Read (s : ByteArray) (y : Its.One) (r : List UInt8) (w : World) (hs : s.size≤65536) (h : rdO 0 s.data.toList=.ok (y,r)) :
  Calls Tryz.prog 57 #[.string s] w (ReadGot w s y r):=by
 have hmf : ∀ (fn : Fn) (first cap : Array Value) (w : World),(Instr.makeFunc fn first cap).run Tryz.prog w=.ok (.func fn first cap) w:=fun _ _ _ _=>rfl
 have HI:=Lib.hid (fun W (hr : RdB s 0 (w.heap.size+1+1+1) W)=>enc_item s.size s 0 s.size 0 (w.heap.size+1+1+1) y r W (by omega) (Nat.le_refl _) hs (by omega) (by rw [seg_all];exact h) hr)
 rw [show ((0 : Nat) : Int)=0 from rfl] at HI
 have HS:=Lib.hid (RdAt.start (w:=w) (s:=s))
 have d1 : decide ((65536 : Int) < (s.size : Int))=false:=decide_eq_false (by omega)
 have d2 : decide (65536 < s.size)=false:=decide_eq_false (by omega)
 clear h
 go_enter_defers Tryz.func57,Tryz.ntmps57
 go_upto_region 5 with fail
 obtain ⟨w4,hw4⟩ : ∃ w4,((((w.alloc (.cells #[.int .i64 0,.string ⟨#[]⟩,.string ⟨#[]⟩,.slice none 0 0] 63)).alloc (.cells #[.int .i64 0] 3)).alloc (.cells #[.int .i64 0] 30)).alloc (.cells #[.string s,.int .i64 0] 145))=w4:=⟨_,rfl⟩
 rw [hw4] at HS ⊢
 clear hw4
 obtain ⟨yk,yn,yt,yl⟩:=y
 obtain ⟨⟨c0,c1⟩,⟨t0,t1,t2,t3⟩,⟨g0,g1,g2,g3⟩,⟨n0,n1⟩,e0,e1⟩:=HS.out.cells
 go_upto_region 6 with (go_at_call 92;(with_reducible refine (HI.out _ HS.out.rd).mono ?_);rintro o w5 ⟨A5,c5,a3,rfl,hr5,ha5,hc5,hsl5,hrb5,hg5⟩;dsimp only at hsl5 hc5;have HR5:=Lib.hid (HS.out.read hrb5 hg5);have HSL:=Lib.hid hsl5;have HP:=Lib.hid (And.intro hr5 (And.intro ha5 hc5));obtain ⟨⟨c0,c1⟩,⟨t0,t1,t2,t3⟩,⟨g0,g1,g2,g3⟩,⟨n0,n1⟩,e0,e1⟩:=HR5.out.cells;clear hsl5 hr5 ha5 hc5 hrb5 hg5)
 have HR6:=Lib.hid (HR5.out.put (k':=yk) (n':=yn) (t':=yt) (A':=A5) (ln':=yl.len) (c':=c5))
 clear c0 c1 t0 t1 t2 t3 g0 g1 g2 g3 n0 n1 e0 e1
 have HS6 : Hid (SlK ((((w5.setCell ⟨w.heap.size,0,none⟩ (.int .i64 yk)).setCell ⟨w.heap.size,1,none⟩ (.string yn)).setCell ⟨w.heap.size,2,none⟩ (.string yt)).setCell ⟨w.heap.size,3,none⟩ (.slice A5 yl.len c5)) (fun g=>w.heap.size+4≤g∧g < w5.heap.size) A5 yl):=Lib.hid ((HSL.out.mono (fun g hg=>⟨Nat.le_trans HS.out.size hg.1,hg.2⟩)).keep (fun p hp=>by
  have h1:=hp.1
  have hcell : ∀ (W : World) (i : Nat) (u : Value),(W.setCell ⟨w.heap.size,i,none⟩ u).cell? p=W.cell? p:=fun W i u=>World.cell?_setCell_other _ _ _ _ (fun e=>by have:=congrArg Addr.block e;simp at this;omega)
  rw [hcell,hcell,hcell,hcell]))
 obtain ⟨w6,hw6⟩ : ∃ w6,((((w5.setCell ⟨w.heap.size,0,none⟩ (.int .i64 yk)).setCell ⟨w.heap.size,1,none⟩ (.string yn)).setCell ⟨w.heap.size,2,none⟩ (.string yt)).setCell ⟨w.heap.size,3,none⟩ (.slice A5 yl.len c5))=w6:=⟨_,rfl⟩
 have hz6 : w5.heap.size=w6.heap.size:=by rw [← hw6];simp
 rw [hz6] at HS6
 rw [hw6] at HR6 HS6 ⊢
 clear hw6 hz6
 obtain ⟨⟨c0,c1⟩,⟨t0,t1,t2,t3⟩,⟨g0,g1,g2,g3⟩,⟨n0,n1⟩,e0,e1⟩:=HR6.out.cells
 have HR7:=Lib.hid (HR6.out.put (k':=yk) (n':=yn) (t':=yt) (A':=A5) (ln':=yl.len) (c':=c5))
 have HK7 : Hid (∀ p : Addr,w.heap.size+4≤p.block→((((w6.setCell ⟨w.heap.size,0,none⟩ (.int .i64 yk)).setCell ⟨w.heap.size,1,none⟩ (.string yn)).setCell ⟨w.heap.size,2,none⟩ (.string yt)).setCell ⟨w.heap.size,3,none⟩ (.slice A5 yl.len c5)).cell? p=w6.cell? p):=Lib.hid (fun p hp=>by
  have hcell : ∀ (W : World) (i : Nat) (u : Value),(W.setCell ⟨w.heap.size,i,none⟩ u).cell? p=W.cell? p:=fun W i u=>World.cell?_setCell_other _ _ _ _ (fun e=>by have:=congrArg Addr.block e;simp at this;omega)
  rw [hcell,hcell,hcell,hcell])
 refine only_m ?_
 go_region_with (fail)
 all_goals
  dsimp only [onlyM]
  go_wp2_with fail
  refine leaves_cons (f:=91) (args:=#[.pointer (some ⟨w.heap.size,0,none⟩),.pointer (some ⟨w.heap.size+1,0,none⟩),.pointer (some ⟨w.heap.size+1+1,0,none⟩)]) (by simp) (by simp [go_sem]) ?_
  obtain ⟨W,hW⟩ : ∃ W,((((((w6.setCell ⟨w.heap.size,0,none⟩ (.int .i64 yk)).setCell ⟨w.heap.size,1,none⟩ (.string yn)).setCell ⟨w.heap.size,2,none⟩ (.string yt)).setCell ⟨w.heap.size,3,none⟩ (.slice A5 yl.len c5)).setCell ⟨w.heap.size+1,0,none⟩ (.int .i64 (a3 : Int))).setCell ⟨w.heap.size+1+1,0,none⟩ (.int .i64 0)).drew=W:=⟨_,rfl⟩
  obtain ⟨⟨x0,x1,x2,x3⟩,x4,x5,hbel,hsz,hkp⟩:=HR7.out.fin (a3 : Int) hW
  rw [hW]
  refine (read_idle _ _ _ _).mono ?_
  rintro e u' w7 ⟨rfl,rfl,rfl⟩
  have hs7 : SlK w7 (fun g=>w.heap.size≤g∧g < w7.heap.size) A5 yl:=(HS6.out.keep (fun p hp=>(hkp p hp.1).trans (HK7.out p hp.1))).mono (fun g hg=>⟨by have:=hg.1;omega,by rw [hsz];simpa using hg.2⟩)
  simp [Leaves,settle,results,Tryz.results57,go_sem,x0,x1,x2,x3,x4,x5]
  exact ⟨A5,c5,a3,rfl,HP.out.1,HP.out.2.1,HP.out.2.2,hs7,hbel⟩
theorem decS_inv {s : ByteArray} {y : Its.One} (h : decS s=.ok y) : s.size≤65536∧rdO 0 s.data.toList=.ok (y,[]):=by
 unfold decS textMax at h
 split at h
 · cases h
 · rename_i h1
   refine ⟨by omega,?_⟩
   cases hr : rdO 0 s.data.toList with
   | err e=>rw [hr] at h;cases h
   | ok x =>
     obtain ⟨y',r⟩:=x
     rw [hr] at h
     dsimp only at h
     split at h
     · rename_i h2
       injection h with h
       rw [h,h2]
     · cases h
theorem enc_Decode (s : ByteArray) (y : Its.One) (w : World) (h : decS s=.ok y) :
  Calls Tryz.prog 18 #[.string s] w (fun o w'=>∃ A c,o=.returned (.tuple #[.agg #[.int .i64 y.1,.string y.2.1,.string y.2.2.1,.slice A y.2.2.2.len c],.int .i64 0])∧y.2.2.2.len≤c∧SlK w' (fun g=>w.heap.size≤g∧g < w'.heap.size) A y.2.2.2∧Below w.heap.size w w'):=by
 obtain ⟨hs,hr⟩:=decS_inv h
 have HR:=Lib.hid (fun W=>enc_Read s y [] W hs hr)
 obtain ⟨yk,yn,yt,yl⟩:=y
 dsimp only
 have hb0 : Below w.heap.size w (w.alloc (.cells #[.int .i64 0,.string ⟨#[]⟩,.string ⟨#[]⟩,.slice none 0 0] 63)):=(Below.refl _ _).alloc (Nat.le_refl _) _
 have HB0:=Lib.hid (And.intro hb0 (heap_alloc_new w (.cells #[.int .i64 0,.string ⟨#[]⟩,.string ⟨#[]⟩,.slice none 0 0] 63)))
 clear h hs hr hb0
 go_enter Tryz.func18, Tryz.ntmps18
 go_upto_region 2 with (go_at_call 57;(with_reducible refine (HR.out _).mono ?_);rintro o w5 ⟨A5,c5,a3,rfl,hr5,ha5,hc5,hsl5,hb5⟩;dsimp only at hsl5 hc5;have HCC:=Lib.hid hc5;have HSL:=Lib.hid hsl5;have HP:=Lib.hid (And.intro hr5 ha5);have HB:=Lib.hid hb5;clear hsl5 hr5 ha5 hc5 hb5)
 have ha : a3=s.size:=by
  have h1:=congrArg List.length HP.out.1
  rw [seg_len (Nat.le_refl _)] at h1
  have:=HP.out.2
  simp at h1
  omega
 subst ha
 have hz5 : w.heap.size+1≤w5.heap.size:=by have:=HB.out.size;simpa using this
 have hres : (w5.alloc (.cells #[.int .i64 yk,.string yn,.string yt,.slice A5 yl.len c5] 63)).heap[w.heap.size]?=some (.cells #[.int .i64 0,.string ⟨#[]⟩,.string ⟨#[]⟩,.slice none 0 0] 63 (0,0)):=(Below.heap_alloc _ _ _ (by omega)).trans ((HB.out.block _ (by simp)).trans HB0.out.2)
 have hbox:=heap_alloc_new w5 (.cells #[.int .i64 yk,.string yn,.string yt,.slice A5 yl.len c5] 63)
 have hbel : Below w.heap.size w (w5.alloc (.cells #[.int .i64 yk,.string yn,.string yt,.slice A5 yl.len c5] 63)):=(HB0.out.1.trans (HB.out.mono (by simp))).alloc (by omega) _
 have hsl : SlK (w5.alloc (.cells #[.int .i64 yk,.string yn,.string yt,.slice A5 yl.len c5] 63)) (fun g=>w.heap.size+1≤g∧g < w5.heap.size) A5 yl:=(HSL.out.keep (fun p hp=>World.cell?_alloc_lt w5 _ p hp.2)).mono (fun g hg=>⟨by have:=hg.1;simpa using this,hg.2⟩)
 have HW:=Lib.hid (And.intro hbel hsl)
 have hsz6 : (w5.alloc (.cells #[.int .i64 yk,.string yn,.string yt,.slice A5 yl.len c5] 63)).heap.size=w5.heap.size+1:=by simp
 have HZ6:=Lib.hid hsz6
 have x0:=cell_of_row _ _ 0 _ _ _ hbox
 have x1:=cell_of_row _ _ 1 _ _ _ hbox
 have x2:=cell_of_row _ _ 2 _ _ _ hbox
 have x3:=cell_of_row _ _ 3 _ _ _ hbox
 have r0:=cell_of_row _ _ 0 _ _ _ hres
 have r1:=cell_of_row _ _ 1 _ _ _ hres
 have r2:=cell_of_row _ _ 2 _ _ _ hres
 have r3:=cell_of_row _ _ 3 _ _ _ hres
 have g0:=frozen_of_row _ _ 0 _ _ hres
 have g1:=frozen_of_row _ _ 1 _ _ hres
 have g2:=frozen_of_row _ _ 2 _ _ hres
 have g3:=frozen_of_row _ _ 3 _ _ hres
 clear hres hbox hbel hsl hsz6
 obtain ⟨w6,hw6⟩ : ∃ w6,w5.alloc (.cells #[.int .i64 yk,.string yn,.string yt,.slice A5 yl.len c5] 63)=w6:=⟨_,rfl⟩
 rw [hw6] at x0 x1 x2 x3 r0 r1 r2 r3 g0 g1 g2 g3 HW HZ6 ⊢
 clear hw6
 go_wp2_with fail
 have hcell : ∀ (p : Addr),p.block≠w.heap.size→∀ (W : World) (i : Nat) (u : Value),(W.setCell ⟨w.heap.size,i,none⟩ u).cell? p=W.cell? p:=fun p hp W i u=>World.cell?_setCell_other _ _ _ _ (fun e=>hp (by have:=congrArg Addr.block e;first | exact this | exact this.symm))
 refine bodyPost_ret (v:=.tuple #[.agg #[.int .i64 yk,.string yn,.string yt,.slice A5 yl.len c5],.int .i64 0]) (by simp [results,Tryz.results18,go_sem,r0,r1,r2,r3]) rfl ?_
 refine ⟨A5,c5,rfl,HCC.out,(HW.out.2.keep fun p hp=>?_).mono fun g hg=>⟨by have:=hg.1;omega,?_⟩,(((HW.out.1.setCell (p:=⟨w.heap.size,0,none⟩) (Nat.le_refl _) _).setCell (p:=⟨w.heap.size,1,none⟩) (Nat.le_refl _) _).setCell (p:=⟨w.heap.size,2,none⟩) (Nat.le_refl _) _).setCell (p:=⟨w.heap.size,3,none⟩) (Nat.le_refl _) _⟩
 · have hne : p.block≠w.heap.size:=by have:=hp.1;omega
   rw [hcell p hne,hcell p hne,hcell p hne,hcell p hne]
 · have h1:=HZ6.out
   simp
   have:=hg.2
   omega
theorem apply_idle (p q : Option Addr) (w : World) :
  CallsD Tryz.prog 19 #[.pointer p,.pointer q] .returning w fun e u' w'=>e=.returned (.tuple #[])∧u'=.returning∧w'=w:=by
 have hnn : ∀ w,(binOp .neq 20 .nilIface .nilIface).run Tryz.prog w=.ok (.bool false) w:=fun w=>Lib.run_neq_nil_nil w Tryz.underlying20
 refine callsD_of_wpS Tryz.func19 rfl fun c₀ cs hu=>?_
 apply wpS_seq
 apply wpS_region
 simp [wpOpsS,go_sem,recoverD,hu,Tryz.ntmps19,Exit.thenS]
 apply wpS_seq
 apply wpS_region
 simp [wpOpsS,go_sem,recoverD,hu,hnn,Exit.thenS]
 refine wpS_cond (t:=false) (by simp [Act.eval,Array.replicate]) ?_
 simp only [Bool.false_eq_true,if_false]
 refine wpS_of_wp (wp_skip ?_)
 cases c₀
 simp_all [bodyPostS,results,Tryz.results19]
def asIs (v : Value) : Option (DataW Value × List MemPlace):=some (.held v,[])
def FnMap (b n : Nat) (D : DataW Value) (w : World) : Prop:=w.ownsMap Tryz.prog 9 asIs b n D
theorem FnMap.made (w : World) : FnMap w.heap.size 0 (.map []) (w.alloc (.map #[] 0)):=World.ownsMap_made _ _ _ _
theorem FnMap.kept {b n : Nat} {D : DataW Value} {w w' : World} (h : FnMap b n D w) (hb : w'.heap[b]?=w.heap[b]?) : FnMap b n D w':=by
 obtain ⟨es,clock,h1,h2⟩:=h
 exact ⟨es,clock,hb.trans h1,h2⟩
theorem wpList_insert_fn {ops : Array Oper} {rest : List Oper} {o : Oper} {a : Act} {Q : Exit→Act→World→Prop} (w : World)
  (hg : o.guard=none) (m x v : Operand) (t : TypeId) (hop : o.op=Op.insert t m x v) (e : TypeId) (ht : Tryz.prog.underlying t=some (.map 9 e)) (b n : Nat) (D : DataW Value)
  (hm : a.eval m=.map (some b)) (hown : FnMap b n D w) (hn : n≤100) (k : ByteArray) (hk : k.size≤1000) (val : Value) (hx : a.eval x=.string k) (hv : a.eval v=val)
  (hK : ∀ w',FnMap b (n+1) (D.put (.string k.data.toList) (.held val)) w'→w.grownBy w' (some b)→wpList Tryz.prog ops Q rest (a.put o.dst undef) w') :
  wpList Tryz.prog ops Q (o::rest) a w:=by
 refine wpList_plain hg fun K' hK'=>?_
 have hkey : keyOf Tryz.prog 9 (.string k)=some (.string k.data.toList):=Go.WideMaps.keyOf_string_mk Tryz.underlying9 (by unfold maxLen;omega)
 obtain ⟨w',hrun,r1,r2⟩:=World.ownsMap.update hown (Maps.string_keyed Tryz.underlying9) ht (by unfold maxLen;omega) hkey (show asIs val=some (.held val,[]) from rfl)
 unfold Oper.wp
 simp [execOp,hop,hm,hx,hv,hrun,Result.andThen]
 exact hK' _ _ (hK w' r1 r2)
theorem FnMap.look {b n : Nat} {D : DataW Value} {w : World} (h : FnMap b n D w) {t e : TypeId} (ht : Tryz.prog.underlying t=some (.map 9 e)) {z : Value} (hz : (zeroValue e).run Tryz.prog w=.ok z w) (k : ByteArray) (hk : k.size≤1000) (val : Value)
  (hat : D.atKey (.string k.data.toList) (.held z)=.held val) (hhas : Maps.has D (.string k.data.toList)=true) :
  (Instr.lookup t (.map (some b)) (.string k) true).run Tryz.prog w=.ok (.tuple #[val,.bool true]) w:=by
 have hkey : keyOf Tryz.prog 9 (.string k)=some (.string k.data.toList):=Go.WideMaps.keyOf_string_mk Tryz.underlying9 (by unfold maxLen;omega)
 obtain ⟨v,ps,hrun,hv⟩:=World.ownsMap.look_ok h (Maps.string_keyed Tryz.underlying9) ht hz (show asIs z=some (.held z,[]) from rfl) hkey
 rw [hat] at hv
 unfold asIs at hv
 injection hv with hv
 injection hv with hv
 injection hv with hv
 rw [hrun,hhas,hv]
structure ApB (w : World) (S : Nat→Prop) (sec : ByteArray) (qs : List Az) (hs : List Hz) (us : List Uz) (Aa : Option Addr) (na ca : Nat) (Ah : Option Addr) (nh ch : Nat) (Au : Option Addr) (nu cu : Nat) (n t : ByteArray) (l : Its) (A : Option Addr) (m c b6 : Nat) (wx : World) : Prop where
 box : wx.heap[w.heap.size]?=some (.cells #[.string sec,.slice Aa na ca,.slice Ah nh ch,.slice Au nu cu] 27 (0,0))
 res : wx.heap[w.heap.size+1]?=some (.cells #[.string ⟨#[]⟩,.slice none 0 0,.slice none 0 0,.slice none 0 0] 27 (0,0))
 err : wx.heap[w.heap.size+1+1]?=some (.cells #[.int .i64 0] 30 (0,0))
 it : wx.heap[b6]?=some (.cells #[.int .i64 2,.string n,.string t,.slice A m c] 63 (0,0))
 mem : SlK wx (fun g=>w.heap.size+3≤g∧g < b6) A l
 src : WalM wx S qs hs us Aa Ah Au
 bel : Below w.heap.size w wx
 lo : w.heap.size+3≤b6
 size : b6 < wx.heap.size
section
variable {w wx w' : World} {S : Nat→Prop} {sec : ByteArray} {qs : List Az} {hs : List Hz} {us : List Uz} {Aa : Option Addr} {na ca : Nat} {Ah : Option Addr} {nh ch : Nat} {Au : Option Addr} {nu cu : Nat} {n t : ByteArray} {l : Its} {A : Option Addr} {m c b6 : Nat}
theorem ApB.next (h : ApB w S sec qs hs us Aa na ca Ah nh ch Au nu cu n t l A m c b6 wx) (hS : ∀ g,S g→g < w.heap.size) (hb : Below (b6+1) wx w') : ApB w S sec qs hs us Aa na ca Ah nh ch Au nu cu n t l A m c b6 w' :=
 have hlo:=h.lo
 ⟨(hb.block _ (by omega)).trans h.box,(hb.block _ (by omega)).trans h.res,(hb.block _ (by omega)).trans h.err,(hb.block _ (by omega)).trans h.it,h.mem.keep (fun p hp=>hb.cell (by have:=hp.2;omega)),h.src.keep (fun p hp=>hb.cell (by have:=hS _ hp;omega)),h.bel.trans (hb.mono (by omega)),h.lo,Nat.lt_of_lt_of_le h.size hb.size⟩
theorem ApB.grown {rb : Nat} (h : ApB w S sec qs hs us Aa na ca Ah nh ch Au nu cu n t l A m c b6 wx) (hS : ∀ g,S g→g < w.heap.size) (hg : wx.grownBy w' (some rb)) (hr : b6 < rb) : ApB w S sec qs hs us Aa na ca Ah nh ch Au nu cu n t l A m c b6 w' :=
 h.next hS (below_grown hg h.size (fun g hg=>by injection hg;omega))
theorem ApB.ic (h : ApB w S sec qs hs us Aa na ca Ah nh ch Au nu cu n t l A m c b6 wx) : wx.cell? ⟨b6,0,none⟩=some (.int .i64 2)∧wx.cell? ⟨b6,1,none⟩=some (.string n)∧wx.cell? ⟨b6,2,none⟩=some (.string t)∧wx.cell? ⟨b6,3,none⟩=some (.slice A m c) :=
 ⟨cell_of_row wx _ 0 _ _ _ h.it,cell_of_row wx _ 1 _ _ _ h.it,cell_of_row wx _ 2 _ _ _ h.it,cell_of_row wx _ 3 _ _ _ h.it⟩
theorem ApB.bc (h : ApB w S sec qs hs us Aa na ca Ah nh ch Au nu cu n t l A m c b6 wx) : wx.cell? ⟨w.heap.size,0,none⟩=some (.string sec)∧wx.cell? ⟨w.heap.size,1,none⟩=some (.slice Aa na ca)∧wx.cell? ⟨w.heap.size,2,none⟩=some (.slice Ah nh ch)∧wx.cell? ⟨w.heap.size,3,none⟩=some (.slice Au nu cu) :=
 ⟨cell_of_row wx _ 0 _ _ _ h.box,cell_of_row wx _ 1 _ _ _ h.box,cell_of_row wx _ 2 _ _ _ h.box,cell_of_row wx _ 3 _ _ _ h.box⟩
theorem ApB.rc (h : ApB w S sec qs hs us Aa na ca Ah nh ch Au nu cu n t l A m c b6 wx) : (wx.cell? ⟨w.heap.size+1,0,none⟩=some (.string ⟨#[]⟩)∧wx.cell? ⟨w.heap.size+1,1,none⟩=some (.slice none 0 0)∧wx.cell? ⟨w.heap.size+1,2,none⟩=some (.slice none 0 0)∧wx.cell? ⟨w.heap.size+1,3,none⟩=some (.slice none 0 0)) ∧
  (wx.frozen? ⟨w.heap.size+1,0,none⟩=false∧wx.frozen? ⟨w.heap.size+1,1,none⟩=false∧wx.frozen? ⟨w.heap.size+1,2,none⟩=false∧wx.frozen? ⟨w.heap.size+1,3,none⟩=false)∧wx.cell? ⟨w.heap.size+1+1,0,none⟩=some (.int .i64 0)∧wx.frozen? ⟨w.heap.size+1+1,0,none⟩=false :=
 ⟨⟨cell_of_row wx _ 0 _ _ _ h.res,cell_of_row wx _ 1 _ _ _ h.res,cell_of_row wx _ 2 _ _ _ h.res,cell_of_row wx _ 3 _ _ _ h.res⟩,⟨frozen_of_row wx _ 0 _ _ h.res,frozen_of_row wx _ 1 _ _ h.res,frozen_of_row wx _ 2 _ _ h.res,frozen_of_row wx _ 3 _ _ h.res⟩,cell_of_row wx _ 0 _ _ _ h.err,frozen_of_row wx _ 0 _ _ h.err⟩
end
def StB (sec : ByteArray) (Aa : Option Addr) (na ca : Nat) (Ah : Option Addr) (nh ch : Nat) (Au : Option Addr) (nu cu b8 : Nat) (w : World) : Prop:=w.heap[b8]?=some (.cells #[.string sec,.slice Aa na ca,.slice Ah nh ch,.slice Au nu cu] 70 (0,0))
theorem StB.cells {sec : ByteArray} {Aa : Option Addr} {na ca : Nat} {Ah : Option Addr} {nh ch : Nat} {Au : Option Addr} {nu cu b8 : Nat} {w : World} (h : StB sec Aa na ca Ah nh ch Au nu cu b8 w) : w.cell? ⟨b8,0,none⟩=some (.string sec)∧w.cell? ⟨b8,1,none⟩=some (.slice Aa na ca)∧w.cell? ⟨b8,2,none⟩=some (.slice Ah nh ch)∧w.cell? ⟨b8,3,none⟩=some (.slice Au nu cu) :=
 ⟨cell_of_row w _ 0 _ _ _ h,cell_of_row w _ 1 _ _ _ h,cell_of_row w _ 2 _ _ _ h,cell_of_row w _ 3 _ _ _ h⟩
theorem wpl {P : Program} {ops : Array Oper} {l : List Oper} {a : Act} {Q : Exit→Act→World→Prop} {w : World} (h : wpList P ops Q l a w) : wpList P ops Q l a w:=h
structure MpB (w : World) (S : Nat→Prop) (sec : ByteArray) (qs : List Az) (hs : List Hz) (us : List Uz) (Aa : Option Addr) (na ca : Nat) (Ah : Option Addr) (nh ch : Nat) (Au : Option Addr) (nu cu : Nat) (n t : ByteArray) (l : Its) (A : Option Addr) (m c b6 b9 k : Nat) (D : DataW Value) (wx : World) : Prop where
 ap : ApB w S sec qs hs us Aa na ca Ah nh ch Au nu cu n t l A m c b6 wx
 st : StB sec Aa na ca Ah nh ch Au nu cu (b6+1) wx
 fm : FnMap b9 k D wx
 lo : b6+2≤b9
 size : b9 < wx.heap.size
theorem MpB.put {w wx w' : World} {S : Nat→Prop} {sec : ByteArray} {qs : List Az} {hs : List Hz} {us : List Uz} {Aa : Option Addr} {na ca : Nat} {Ah : Option Addr} {nh ch : Nat} {Au : Option Addr} {nu cu : Nat} {n t : ByteArray} {l : Its} {A : Option Addr} {m c b6 b9 k k' : Nat} {D D' : DataW Value} (h : MpB w S sec qs hs us Aa na ca Ah nh ch Au nu cu n t l A m c b6 b9 k D wx) (hS : ∀ g,S g→g < w.heap.size) (fm : FnMap b9 k' D' w') (hg : wx.grownBy w' (some b9)) :
  MpB w S sec qs hs us Aa na ca Ah nh ch Au nu cu n t l A m c b6 b9 k' D' w' :=
 have hlo:=h.lo
 have hsz:=h.size
 ⟨h.ap.grown hS hg (by omega),(hg.block _ (by omega) (fun e=>by injection e;omega)).trans h.st,fm,h.lo,Nat.lt_of_lt_of_le h.size hg.size⟩
theorem ApB.fin {w wx : World} {S : Nat→Prop} {sec : ByteArray} {qs : List Az} {hs : List Hz} {us : List Uz} {Aa : Option Addr} {na ca : Nat} {Ah : Option Addr} {nh ch : Nat} {Au : Option Addr} {nu cu : Nat} {n t : ByteArray} {l : Its} {A : Option Addr} {m c b6 : Nat} (h : ApB w S sec qs hs us Aa na ca Ah nh ch Au nu cu n t l A m c b6 wx)
  {qs' : List Az} {hs' : List Hz} {us' : List Uz} {A1 A2 A3 : Option Addr} {B : Nat} (hB : w.heap.size+3≤B) (hm : WalM wx (fun g=>B≤g∧g < wx.heap.size) qs' hs' us' A1 A2 A3) (x0 x1 x2 x3 : Value) {W : World}
  (hW : (((((wx.setCell ⟨w.heap.size+1,0,none⟩ x0).setCell ⟨w.heap.size+1,1,none⟩ x1).setCell ⟨w.heap.size+1,2,none⟩ x2).setCell ⟨w.heap.size+1,3,none⟩ x3).setCell ⟨w.heap.size+1+1,0,none⟩ (.int .i64 0))=W) :
  (W.cell? ⟨w.heap.size+1,0,none⟩=some x0∧W.cell? ⟨w.heap.size+1,1,none⟩=some x1∧W.cell? ⟨w.heap.size+1,2,none⟩=some x2∧W.cell? ⟨w.heap.size+1,3,none⟩=some x3)∧W.cell? ⟨w.heap.size+1+1,0,none⟩=some (.int .i64 0)∧WalM W (fun g=>w.heap.size≤g∧g < W.heap.size) qs' hs' us' A1 A2 A3∧Below w.heap.size w W:=by
 subst hW
 have hl1 : w.heap.size≤w.heap.size+1:=Nat.le_succ _
 have hl2 : w.heap.size≤w.heap.size+1+1:=Nat.le_add_right _ 2
 have e0:=heap_setCell_same wx (w.heap.size+1) 0 _ _ x0 h.res
 have e1:=heap_setCell_same _ (w.heap.size+1) 1 _ _ x1 e0
 have e2:=heap_setCell_same _ (w.heap.size+1) 2 _ _ x2 e1
 have e3:=heap_setCell_same _ (w.heap.size+1) 3 _ _ x3 e2
 have hne : w.heap.size+1≠w.heap.size+1+1:=by omega
 have hne' : w.heap.size+1+1≠w.heap.size+1:=by omega
 have e4:=(heap_setCell_other _ ⟨w.heap.size+1+1,0,none⟩ _ (.int .i64 0) hne).trans e3
 have e5:=heap_setCell_same ((((wx.setCell ⟨w.heap.size+1,0,none⟩ x0).setCell ⟨w.heap.size+1,1,none⟩ x1).setCell ⟨w.heap.size+1,2,none⟩ x2).setCell ⟨w.heap.size+1,3,none⟩ x3) (w.heap.size+1+1) 0 _ _ (.int .i64 0) (by
  rw [heap_setCell_other _ _ _ _ hne',heap_setCell_other _ _ _ _ hne',heap_setCell_other _ _ _ _ hne',heap_setCell_other _ _ _ _ hne']
  exact h.err)
 have o : ∀ g,w.heap.size+3≤g→(((((wx.setCell ⟨w.heap.size+1,0,none⟩ x0).setCell ⟨w.heap.size+1,1,none⟩ x1).setCell ⟨w.heap.size+1,2,none⟩ x2).setCell ⟨w.heap.size+1,3,none⟩ x3).setCell ⟨w.heap.size+1+1,0,none⟩ (.int .i64 0)).heap[g]?=wx.heap[g]?:=fun g hg=>by
  have k1 : g≠w.heap.size+1:=by omega
  have k2 : g≠w.heap.size+1+1:=by omega
  rw [heap_setCell_other _ _ _ _ k2,heap_setCell_other _ _ _ _ k1,heap_setCell_other _ _ _ _ k1,heap_setCell_other _ _ _ _ k1,heap_setCell_other _ _ _ _ k1]
 refine ⟨⟨cell_of_row _ _ 0 _ _ _ e4,cell_of_row _ _ 1 _ _ _ e4,cell_of_row _ _ 2 _ _ _ e4,cell_of_row _ _ 3 _ _ _ e4⟩,cell_of_row _ _ 0 _ _ _ e5,(hm.keep (fun p hp=>World.cell?_of_block (o _ (Nat.le_trans hB hp.1)))).mono (fun g hg=>⟨by have:=hg.1;omega,by simpa using hg.2⟩),((((h.bel.setCell (p:=⟨w.heap.size+1,0,none⟩) hl1 _).setCell (p:=⟨w.heap.size+1,1,none⟩) hl1 _).setCell (p:=⟨w.heap.size+1,2,none⟩) hl1 _).setCell (p:=⟨w.heap.size+1,3,none⟩) hl1 _).setCell (p:=⟨w.heap.size+1+1,0,none⟩) hl2 _⟩
def ApGot (w : World) (sec : ByteArray) (qs : List Az) (hs : List Hz) (us : List Uz) (o : Ending) (w' : World) : Prop :=
 ∃ A1 n1 c1 A2 n2 c2 A3 n3 c3,o=.returned (.tuple #[.agg #[.string sec,.slice A1 n1 c1,.slice A2 n2 c2,.slice A3 n3 c3],.int .i64 0])∧n1=qs.length∧n2=hs.length∧n3=us.length∧WalM w' (fun g=>w.heap.size≤g∧g < w'.heap.size) qs hs us A1 A2 A3∧Below w.heap.size w w'
end Go.Proofs.YtjhlddlocpkhkaaGreat
