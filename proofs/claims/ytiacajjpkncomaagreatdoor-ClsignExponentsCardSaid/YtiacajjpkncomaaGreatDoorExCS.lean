/- The walk of the reference's Same of package 06 (equal tapes). -/
import Derived.Test.YtiacajjpkncomaaGreatDoorExRC
namespace Go.Proofs.YtiacajjpkncomaaGreatDoor
open Go.RowKit
set_option maxRecDepth 100000
set_option linter.unusedVariables false
set_option maxHeartbeats 4000000
structure TwoT (w wx:World) (A A':Option Addr) (n c c':Nat) (seed:ByteArray) (z:Int):Prop where
 a0:wx.cell? ⟨w.heap.size,0,none⟩=some (.slice A n c)
 a1:wx.cell? ⟨w.heap.size,1,none⟩=some (.string seed)
 a2:wx.cell? ⟨w.heap.size,2,none⟩=some (.int .i64 z)
 b0:wx.cell? ⟨w.heap.size+1,0,none⟩=some (.slice A' n c')
 b1:wx.cell? ⟨w.heap.size+1,1,none⟩=some (.string seed)
 b2:wx.cell? ⟨w.heap.size+1,2,none⟩=some (.int .i64 z)
theorem r06_Same (vals:List ByteArray) (A A':Option Addr) (n c c':Nat) (seed:ByteArray) (z:Int) (w:World) (hn:vals.length=n) (hm:n≤1000) (h:SLs w w.heap.size A vals) (h':SLs w w.heap.size A' vals) :
  Calls Tryz.prog 9 #[.agg #[.slice A n c,.string seed,.int .i64 z],.agg #[.slice A' n c',.string seed,.int .i64 z]] w fun e w'=>e=.returned (.bool true)∧Below w.heap.size w w':=by
 have hb:Below w.heap.size w ((w.alloc (.cells #[.slice A n c,.string seed,.int .i64 z] 39)).alloc (.cells #[.slice A' n c',.string seed,.int .i64 z] 39)):=((Below.refl _ _).alloc (Nat.le_refl _) _).alloc (by simp) _;have HS:=Lib.hid (h.below hb);have HS':=Lib.hid (h'.below hb);have HB:=Lib.hid hb;have HN:=Lib.hid hn;have HM:=Lib.hid hm;have HS0:=Lib.hid h;have HS0':=Lib.hid h';clear hb h h' hn hm HS HS'
 go_enter Tryz.func9, Tryz.ntmps9
 go_wp2_with fail;go_loopw [5] (fun v wr=>∃ k:Nat,v=.int .i64 k∧k≤n∧Below w.heap.size w wr∧TwoT w wr A A' n c c' seed z) (fun v _=>n-(intOf v).toNat)
 case atStart=>exact ⟨0,rfl,Nat.zero_le _,HB.out,⟨by simp [go_sem],by simp [go_sem],by simp [go_sem],by simp [go_sem],by simp [go_sem],by simp [go_sem]⟩⟩
 case round =>
  obtain ⟨k,rfl,hk,hb,ht⟩:=hrel;obtain ⟨a0,a1,a2,b0,b1,b2⟩:=ht;have HBE:=Lib.hid hb;by_cases hlt:k<n
  · obtain ⟨ad,rfl,hc⟩:=(HS0.out.below hb).at_ (k:=k) (by rw [HN.out];exact hlt)
    obtain ⟨ad',rfl,hc'⟩:=(HS0'.out.below hb).at_ (k:=k) (by rw [HN.out];exact hlt);obtain ⟨x,hx⟩:∃ x,x=vals.getD k ByteArray.empty:=⟨_,rfl⟩;rw [← hx] at hc hc';have HT:=Lib.hid (TwoT.mk a0 a1 a2 b0 b1 b2);have HLT:=Lib.hid hlt;have k1:decide ((k:Int)<(n:Int))=true:=decide_eq_true (by omega);have k2:(k:Int)<(n:Int):=by omega
    have k3:(0:Int)≤(k:Int):=by omega
    have HW:=Lib.hid (show wrap64 ((k:Int)+1)=(k:Int)+1 from IntWalk.wrap64_in _ (by have:=HM.out;omega));clear hb hx hlt hk;go_wp2_with fail;go_quiet (fail);go_wp2_with fail;have t:=HT.out;refine ⟨⟨k+1,by rw [HW.out];rfl,HLT.out,below_drewN HBE.out _,⟨t.a0,t.a1,t.a2,t.b0,t.b1,t.b2⟩⟩,?_⟩;rw [HW.out];have:=HLT.out;show n-((k:Int)+1).toNat<n-(k:Int).toNat;omega
  · have k1:decide ((k:Int)<(n:Int))=false:=decide_eq_false (by omega)
    obtain rfl:k=n:=by omega
    clear hb hlt hk;go_wp2_with fail;go_ret;exact ⟨rfl,HBE.out⟩
end Go.Proofs.YtiacajjpkncomaaGreatDoor
