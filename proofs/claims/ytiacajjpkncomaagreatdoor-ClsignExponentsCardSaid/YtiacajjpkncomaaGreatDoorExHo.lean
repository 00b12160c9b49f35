/- What a law holds in memory, and what a search hands back on either side. -/
import Derived.Test.YtiacajjpkncomaaGreatDoorExCF
namespace Go.Proofs.YtiacajjpkncomaaGreatDoor
open Go.RowKit
set_option maxRecDepth 100000
set_option linter.unusedVariables false
set_option maxHeartbeats 4000000
structure Hold (w:World) (l:List (Addr × Value)) (rs:List (Option Addr × List ByteArray)) (wx:World):Prop where
 cells:∀ p∈l,wx.cell? p.1=some p.2
 rows:∀ p∈rs,SLs wx wx.heap.size p.1 p.2
 tab:Tab wx
 tab10:Tab10 wx
 bel:Below w.heap.size w wx
section
variable {w wx wy:World} {l:List (Addr × Value)} {rs:List (Option Addr × List ByteArray)}
theorem Hold.next (h:Hold w l rs wx) (hb:Below wx.heap.size wx wy):Hold w l rs wy :=
 ⟨fun p hp=>(hb.cell (cell_in (h.cells p hp))).trans (h.cells p hp),fun p hp=>(h.rows p hp).to hb,h.tab.below hb,h.tab10.below hb,h.bel.trans (hb.mono h.bel.size)⟩
theorem Hold.alloc (h:Hold w l rs wx) (o:Obj):Hold w l rs (wx.alloc o):=h.next ((Below.refl _ _).alloc (Nat.le_refl _) _)
theorem Hold.drew (h:Hold w l rs wx):Hold w l rs wx.drew:=h.next (Below.refl _ _).drew
theorem Hold.add {a:Addr} {v:Value} (h:Hold w l rs wx) (hc:wx.cell? a=some v):Hold w ((a,v)::l) rs wx :=
 ⟨fun p hp=>by
  rcases List.mem_cons.1 hp with rfl|hp
  · exact hc
  · exact h.cells p hp,h.rows,h.tab,h.tab10,h.bel⟩
theorem Hold.row {A:Option Addr} {vs:List ByteArray} (h:Hold w l rs wx) (hs:SLs wx wx.heap.size A vs):Hold w l ((A,vs)::rs) wx :=
 ⟨h.cells,fun p hp=>by
  rcases List.mem_cons.1 hp with rfl|hp
  · exact hs
  · exact h.rows p hp,h.tab,h.tab10,h.bel⟩
theorem Hold.box3 {a b c:Value} {T:TypeId} (h:Hold w l rs wx):Hold w ((⟨wx.heap.size,0,none⟩,a)::(⟨wx.heap.size,1,none⟩,b)::(⟨wx.heap.size,2,none⟩,c)::l) rs (wx.alloc (.cells #[a,b,c] T)) :=
 (((h.alloc _).add (by simp [go_sem])).add (by simp [go_sem])).add (by simp [go_sem])
theorem Hold.t3 {p q r:Addr × Value} (h:Hold w (p::q::r::l) rs wx):wx.cell? p.1=some p.2∧wx.cell? q.1=some q.2∧wx.cell? r.1=some r.2:=⟨h.cells p (by simp),h.cells q (by simp),h.cells r (by simp)⟩
theorem Hold.tl {p q r:Addr × Value} (h:Hold w (p::q::r::l) rs wx):Hold w l rs wx:=⟨fun x hx=>h.cells x (by simp [hx]),h.rows,h.tab,h.tab10,h.bel⟩
theorem Hold.hd {p:Option Addr × List ByteArray} (h:Hold w l (p::rs) wx):SLs wx wx.heap.size p.1 p.2:=h.rows p (by simp)
theorem Hold.rl {p:Option Addr × List ByteArray} (h:Hold w l (p::rs) wx):Hold w l rs wx:=⟨h.cells,fun x hx=>h.rows x (by simp [hx]),h.tab,h.tab10,h.bel⟩
theorem Hold.start {A:Option Addr} {n c:Nat} {seed:ByteArray} {z:Int} {vals:List ByteArray} {T:TypeId} (hs:SLs w w.heap.size A vals) (hT:Tab w) (hT10:Tab10 w) :
  Hold w [(⟨w.heap.size,0,none⟩,.slice A n c),(⟨w.heap.size,1,none⟩,.string seed),(⟨w.heap.size,2,none⟩,.int .i64 z)] [(A,vals)] (w.alloc (.cells #[.slice A n c,.string seed,.int .i64 z] T)) :=
 (Hold.row (l:=[]) (rs:=[]) ⟨fun p hp=>(by cases hp),fun p hp=>(by cases hp),hT,hT10,Below.refl _ _⟩ hs).box3
end
def srchOut (s:ByteArray) (vs:List ByteArray) (m:Nat) (sd:ByteArray) (zz er:Int) (e:Ending) (w':World):Prop :=
 ∃ A' c',e=.returned (.tuple #[.string s,.agg #[.slice A' m c',.string sd,.int .i64 zz],.int .i64 er])∧SLs w' w'.heap.size A' vs
theorem both_posts (d:Int × Nat × Int) (n:Nat) (seed:ByteArray) (vals:List ByteArray) (hn:vals.length=n) (hm:n≤1000) :
  ∃ s vs m sd zz er,vs.length=m∧m≤1000∧(∀ e w',searchPost d n seed vals e w'→srchOut s vs m sd zz er e w')∧(∀ k e w',searchPostR k d n seed vals e w'→srchOut s vs m sd zz er e w'):=by
 by_cases h0:d.1=0
 · refine ⟨B d.2.1,vals,n,seed,d.2.2,0,hn,hm,?_,?_⟩
   · rintro e w' (⟨_,g,rfl,hs⟩|⟨h,_⟩)
     · exact ⟨_,_,rfl,hs⟩
     · exact absurd h0 h
   · rintro k e w' (⟨_,A',c',rfl,hs,_⟩|⟨h,_⟩)
     · exact ⟨_,_,rfl,hs⟩
     · exact absurd h0 h
 · refine ⟨⟨#[]⟩,[],0,⟨#[]⟩,0,d.1,rfl,by decide,?_,?_⟩
   · rintro e w' (⟨h,_⟩|⟨_,rfl⟩)
     · exact absurd h h0
     · exact ⟨_,_,rfl,SLs.nil_⟩
   · rintro k e w' (⟨h,_⟩|⟨_,rfl⟩)
     · exact absurd h h0
     · exact ⟨_,_,rfl,SLs.nil_⟩
end Go.Proofs.YtiacajjpkncomaaGreatDoor
