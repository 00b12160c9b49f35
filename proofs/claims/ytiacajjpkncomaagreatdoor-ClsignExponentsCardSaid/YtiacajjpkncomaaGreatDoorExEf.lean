/- The law file's awake: the chapter's examples. -/
import Derived.Test.YtiacajjpkncomaaGreatDoorExEd
import Derived.Test.YtiacajjpkncomaaGreatDoorExJ6
import Derived.Test.YtiacajjpkncomaaGreatDoorExKv
import Derived.Test.YtiacajjpkncomaaGreatDoorExJA
import Derived.Deep.DeepCutAuto
import Derived.Deep.CutBlock
namespace Go.Proofs.YtiacajjpkncomaaGreatDoor
open Go.RowKit
set_option maxRecDepth 100000
set_option linter.unusedVariables false
set_option maxHeartbeats 20000000
theorem run_exec_load_sub {P:Program} {o:Oper} {a:Act} {w:World} (ty:TypeId) (x:Operand) (ho:o.op=.load ty x)
  (g k:Nat) (hx:a.eval x=.pointer (some ⟨g,k,none⟩)) (t:TypeId) (cs cs0:Array Value) (fr:Nat × Nat) (d:TypeDesc) (hg:w.heap[g]?=some (.cells cs0 t fr)) (hs:cs0.extract k (k+cs.size)=cs)
  (hu:P.underlying ty=some d) (hd:(match d with|.struct _|.array _ _=>true|_=>false)=true) (hi:(P.info? ty).map (·.size)=some cs.size) :
  (execOp a.eval o).run P w=.ok (.value (.agg cs)) w:=by
 unfold execOp;simp only [ho,hx,Instr.loadAt,Instr.sureAddr,Sem.run_bind,Sem.run_pure,Result.andThen_ok,run_loadVar_sub w g k t ty cs cs0 fr d hg hs hu hd hi]
theorem info2':(Tryz.prog.info? 35).map (·.size)=some 2:=by kernel_rfl
theorem info3s':(Tryz.prog.info? 59).map (·.size)=some 3:=by kernel_rfl
structure AwS (w:World) (b1 g:Nat) (W:World):Prop where
 set:W.heap[b1]?=some (.cells (setEx g) 37 (0,0))
 row:SLs W b1 (some ⟨g,0,none⟩) [B 64,B 23,B 1]
 lo:w.heap.size≤b1
 bel:Below w.heap.size w W
section
variable {w W W':World} {b1 g n:Nat}
theorem AwS.next' (k:AwS w b1 g W) (hb:Below n W W') (hn:b1<n):AwS w b1 g W' :=
 ⟨(hb.block _ hn).trans k.set,k.row.below (hb.mono (Nat.le_of_lt hn)),k.lo,k.bel.trans (hb.mono (Nat.le_trans k.lo (Nat.le_of_lt hn)))⟩
theorem AwS.lt (k:AwS w b1 g W):b1<W.heap.size:=(Array.getElem?_eq_some_iff.1 k.set).1
theorem AwS.next (k:AwS w b1 g W) (hb:Below W.heap.size W W'):AwS w b1 g W':=k.next' hb k.lt
theorem AwS.drew (k:AwS w b1 g W):AwS w b1 g W.drew:=k.next ((Below.refl _ _).drew)
theorem AwS.alloc (k:AwS w b1 g W) (o:Obj):AwS w b1 g (W.alloc o):=k.next ((Below.refl _ _).alloc (Nat.le_refl _) o)
theorem AwS.rows (k:AwS w b1 g W):SLs W W.heap.size (some ⟨g,0,none⟩) [B 64,B 23,B 1]:=k.row.more (Nat.le_of_lt k.lt)
end
structure AwR (w:World) (b1 g:Nat) (LL:List (Nat × Array Value × TypeId)) (W:World):Prop where
 aws:AwS w b1 g W
 rows:∀ r∈LL,W.heap[r.1]?=some (.cells r.2.1 r.2.2 (0,0))
section
variable {w W W':World} {b1 g:Nat} {LL:List (Nat × Array Value × TypeId)}
theorem AwR.next (k:AwR w b1 g LL W) (hb:Below W.heap.size W W'):AwR w b1 g LL W' :=
 ⟨k.aws.next hb,fun r hr=>(hb.block _ (Array.getElem?_eq_some_iff.1 (k.rows r hr)).1).trans (k.rows r hr)⟩
theorem AwR.drew (k:AwR w b1 g LL W):AwR w b1 g LL W.drew:=k.next ((Below.refl _ _).drew)
theorem AwR.alloc (k:AwR w b1 g LL W) (o:Obj):AwR w b1 g LL (W.alloc o):=k.next ((Below.refl _ _).alloc (Nat.le_refl _) o)
theorem AwR.add (k:AwR w b1 g LL W) (cs:Array Value) (T:TypeId):AwR w b1 g ((W.heap.size,cs,T)::LL) (W.alloc (.cells cs T)) :=
 ⟨(k.alloc _).aws,fun r hr=>by
   rcases List.mem_cons.1 hr with rfl|hr
   · exact heap_alloc_new W _
   · exact (k.alloc _).rows r hr⟩
theorem AwR.of {b:Nat} {cs:Array Value} {T:TypeId} (k:AwR w b1 g LL W) (h:(b,cs,T)∈LL):W.heap[b]?=some (.cells cs T (0,0)):=k.rows _ h
end
theorem urow3 (W:World) (T:TypeId) (x y z:Nat):URow (W.alloc (.cells #[.int .u64 x,.int .u64 y,.int .u64 z] T)) W.heap.size [x,y,z]:=fun k hk=>by
 rw [cell_of_row _ _ k _ _ _ (heap_alloc_new W (.cells #[.int .u64 x,.int .u64 y,.int .u64 z] T))]
 rcases k with _|_|_|k
 · rfl
 · rfl
 · rfl
 · simp at hk;omega
theorem urow4 (W:World) (T:TypeId) (x y z u:Nat):URow (W.alloc (.cells #[.int .u64 x,.int .u64 y,.int .u64 z,.int .u64 u] T)) W.heap.size [x,y,z,u]:=fun k hk=>by
 rw [cell_of_row _ _ k _ _ _ (heap_alloc_new W (.cells #[.int .u64 x,.int .u64 y,.int .u64 z,.int .u64 u] T))]
 rcases k with _|_|_|_|k
 · rfl
 · rfl
 · rfl
 · rfl
 · simp at hk;omega
structure JF (b1:Nat) (L:Nat→Bool) (W:World) (x27 x28 x29 x30 x31 x32 x20 x33 x34 x35 x4 x5 x6:Value):Prop where
 f27:L 6=true→∃ gu,x27=.slice (some ⟨gu,0,none⟩) 3 3∧(L 7=false→gu<W.heap.size∧URow W gu [1,3,5])
 f28:L 7=true→∃ A c,x28=.slice A 3 c∧(L 11=false→SLs W W.heap.size A [B 1,B 3,B 5])
 f29:L 8=true→∃ gu,x29=.slice (some ⟨gu,0,none⟩) 4 4∧(L 9=false→gu<W.heap.size∧URow W gu [0,2,4,1])
 f30:L 9=true→∃ A c,x30=.slice A 4 c∧(L 11=false→SLs W W.heap.size A [B 0,B 2,B 4,B 1])
 f31:L 10=true→x31=.agg #[x30,.string ⟨#[]⟩,.int .i64 0]∧L 9=true
 f32:L 11=true→(∃ gt,x32=.tuple #[.agg #[.string (B 37),.string (B 7),.string (B 1)],.agg #[.slice (some ⟨gt,0,none⟩) 4 4,.string ⟨#[]⟩,.int .i64 4],.int .i64 0])∧L 7=true∧L 9=true
 f20:L 12=true→(∃ gt,x20=.tuple #[.agg #[.string (B 37),.string (B 7),.string (B 1)],.agg #[.slice (some ⟨gt,0,none⟩) 4 4,.string ⟨#[]⟩,.int .i64 4],.int .i64 0])∧L 11=true
 f33:L 13=true→x33=.agg #[.string (B 37),.string (B 7),.string (B 1)]∧L 12=true
 f34:L 14=true→(∃ gt,x34=.agg #[.slice (some ⟨gt,0,none⟩) 4 4,.string ⟨#[]⟩,.int .i64 4])∧L 12=true
 f35:L 15=true→x35=.int .i64 0
 f4:L 16=true→∃ b,x4=.pointer (some ⟨b,0,none⟩)∧b1<b∧(L 18=true→W.heap[b]?=some (.cells #[.string (B 37),.string (B 7),.string (B 1)] 59 (0,0)))∧(L 18=false→W.heap[b]?=some (.cells #[.string ⟨#[]⟩,.string ⟨#[]⟩,.string ⟨#[]⟩] 59 (0,0)))
 f5:L 17=true→∃ b,x5=.pointer (some ⟨b,0,none⟩)∧b1<b∧(L 19=true→∃ gt,W.heap[b]?=some (.cells #[.slice (some ⟨gt,0,none⟩) 4 4,.string ⟨#[]⟩,.int .i64 4] 39 (0,0)))∧(L 19=false→W.heap[b]?=some (.cells #[.slice none 0 0,.string ⟨#[]⟩,.int .i64 0] 39 (0,0)))
 f45:L 16=true→L 17=true→x4≠x5
 f6:L 20=true→x6=.int .i64 0
 s18:L 18=true→L 16=true
 s19:L 19=true→L 17=true
 s7:L 7=true→L 6=true
 s9:L 9=true→L 8=true
section
variable {b1:Nat} {L:Nat→Bool} {W W':World} {x27 x28 x29 x30 x31 x32 x20 x33 x34 x35 x4 x5 x6:Value}
theorem JF.next (k:JF b1 L W x27 x28 x29 x30 x31 x32 x20 x33 x34 x35 x4 x5 x6) (hb:Below W.heap.size W W'):JF b1 L W' x27 x28 x29 x30 x31 x32 x20 x33 x34 x35 x4 x5 x6 :=
 ⟨fun h=>by obtain ⟨gu,e,hr⟩:=k.f27 h;exact ⟨gu,e,fun h2=>⟨Nat.lt_of_lt_of_le (hr h2).1 hb.size,(hr h2).2.next hb (hr h2).1⟩⟩,
  fun h=>by obtain ⟨A,c,e,hr⟩:=k.f28 h;exact ⟨A,c,e,fun h2=>(hr h2).to hb⟩,
  fun h=>by obtain ⟨gu,e,hr⟩:=k.f29 h;exact ⟨gu,e,fun h2=>⟨Nat.lt_of_lt_of_le (hr h2).1 hb.size,(hr h2).2.next hb (hr h2).1⟩⟩,
  fun h=>by obtain ⟨A,c,e,hr⟩:=k.f30 h;exact ⟨A,c,e,fun h2=>(hr h2).to hb⟩,
  k.f31,k.f32,k.f20,k.f33,k.f34,k.f35,
  fun h=>by obtain ⟨b,e,hl,h1,h2⟩:=k.f4 h;exact ⟨b,e,hl,fun h3=>(hb.block _ (Array.getElem?_eq_some_iff.1 (h1 h3)).1).trans (h1 h3),fun h3=>(hb.block _ (Array.getElem?_eq_some_iff.1 (h2 h3)).1).trans (h2 h3)⟩,
  fun h=>by obtain ⟨b,e,hl,h1,h2⟩:=k.f5 h;exact ⟨b,e,hl,fun h3=>by obtain ⟨gt,h4⟩:=h1 h3;exact ⟨gt,(hb.block _ (Array.getElem?_eq_some_iff.1 h4).1).trans h4⟩,fun h3=>(hb.block _ (Array.getElem?_eq_some_iff.1 (h2 h3)).1).trans (h2 h3)⟩,
  k.f45,k.f6,k.s18,k.s19,k.s7,k.s9⟩
theorem JF.up6 {v:Value} (k:JF b1 L W x27 x28 x29 x30 x31 x32 x20 x33 x34 x35 x4 x5 x6) (hL:L 7=false) (h:∃ gu,v=.slice (some ⟨gu,0,none⟩) 3 3∧gu<W.heap.size∧URow W gu [1,3,5]):JF b1 (addL L 6) W v x28 x29 x30 x31 x32 x20 x33 x34 x35 x4 x5 x6 :=
 ⟨fun _=>by obtain ⟨gu,e,h1,h2⟩:=h;exact ⟨gu,e,fun _=>⟨h1,h2⟩⟩,k.f28,k.f29,k.f30,k.f31,k.f32,k.f20,k.f33,k.f34,k.f35,k.f4,k.f5,k.f45,k.f6,k.s18,k.s19,fun _=>by simp [addL],k.s9⟩
theorem JF.up8 {v:Value} (k:JF b1 L W x27 x28 x29 x30 x31 x32 x20 x33 x34 x35 x4 x5 x6) (hL:L 9=false) (h:∃ gu,v=.slice (some ⟨gu,0,none⟩) 4 4∧gu<W.heap.size∧URow W gu [0,2,4,1]):JF b1 (addL L 8) W x27 x28 v x30 x31 x32 x20 x33 x34 x35 x4 x5 x6 :=
 ⟨k.f27,k.f28,fun _=>by obtain ⟨gu,e,h1,h2⟩:=h;exact ⟨gu,e,fun _=>⟨h1,h2⟩⟩,k.f30,k.f31,k.f32,k.f20,k.f33,k.f34,k.f35,k.f4,k.f5,k.f45,k.f6,k.s18,k.s19,k.s7,fun _=>by simp [addL]⟩
theorem JF.up7 {v:Value} (k:JF b1 L W x27 x28 x29 x30 x31 x32 x20 x33 x34 x35 x4 x5 x6) (h6:L 6=true) (h:∃ A c,v=.slice A 3 c∧SLs W W.heap.size A [B 1,B 3,B 5]):JF b1 (addL L 7) W x27 v x29 x30 x31 x32 x20 x33 x34 x35 x4 x5 x6 :=
 ⟨fun h=>by obtain ⟨gu,e,_⟩:=k.f27 (by simpa [addL] using h);exact ⟨gu,e,fun h2=>by simp [addL] at h2⟩,fun _=>by obtain ⟨A,c,e,h1⟩:=h;exact ⟨A,c,e,fun _=>h1⟩,k.f29,k.f30,k.f31,fun h=>by have:=k.f32 (by simpa [addL] using h);exact ⟨this.1,by simp [addL],by simpa [addL] using this.2.2⟩,k.f20,k.f33,k.f34,k.f35,k.f4,k.f5,k.f45,k.f6,k.s18,k.s19,fun _=>by simpa [addL] using h6,k.s9⟩
theorem JF.up9 {v:Value} (k:JF b1 L W x27 x28 x29 x30 x31 x32 x20 x33 x34 x35 x4 x5 x6) (h8:L 8=true) (hL:L 10=false) (h:∃ A c,v=.slice A 4 c∧SLs W W.heap.size A [B 0,B 2,B 4,B 1]):JF b1 (addL L 9) W x27 x28 x29 v x31 x32 x20 x33 x34 x35 x4 x5 x6 :=
 ⟨k.f27,k.f28,fun h=>by obtain ⟨gu,e,_⟩:=k.f29 (by simpa [addL] using h);exact ⟨gu,e,fun h2=>by simp [addL] at h2⟩,fun _=>by obtain ⟨A,c,e,h1⟩:=h;exact ⟨A,c,e,fun _=>h1⟩,fun h=>absurd (show L 10=true by simpa [addL] using h) (by rw [hL];decide),fun h=>by have:=k.f32 (by simpa [addL] using h);exact ⟨this.1,by simpa [addL] using this.2.1,by simp [addL]⟩,k.f20,k.f33,k.f34,k.f35,k.f4,k.f5,k.f45,k.f6,k.s18,k.s19,k.s7,fun _=>by simpa [addL] using h8⟩
theorem JF.up10 {v:Value} (k:JF b1 L W x27 x28 x29 x30 x31 x32 x20 x33 x34 x35 x4 x5 x6) (h9:L 9=true) (h:v=.agg #[x30,.string ⟨#[]⟩,.int .i64 0]):JF b1 (addL L 10) W x27 x28 x29 x30 v x32 x20 x33 x34 x35 x4 x5 x6 :=
 ⟨k.f27,k.f28,k.f29,k.f30,fun _=>⟨h,by simpa [addL] using h9⟩,k.f32,k.f20,k.f33,k.f34,k.f35,k.f4,k.f5,k.f45,k.f6,k.s18,k.s19,k.s7,k.s9⟩
theorem JF.up11 {v:Value} (k:JF b1 L W x27 x28 x29 x30 x31 x32 x20 x33 x34 x35 x4 x5 x6) (h7:L 7=true) (h9:L 9=true) (h:∃ gt,v=.tuple #[.agg #[.string (B 37),.string (B 7),.string (B 1)],.agg #[.slice (some ⟨gt,0,none⟩) 4 4,.string ⟨#[]⟩,.int .i64 4],.int .i64 0]):JF b1 (addL L 11) W x27 x28 x29 x30 x31 v x20 x33 x34 x35 x4 x5 x6 :=
 ⟨k.f27,fun h=>by obtain ⟨A,c,e,_⟩:=k.f28 (by simpa [addL] using h);exact ⟨A,c,e,fun h2=>by simp [addL] at h2⟩,k.f29,fun h=>by obtain ⟨A,c,e,_⟩:=k.f30 (by simpa [addL] using h);exact ⟨A,c,e,fun h2=>by simp [addL] at h2⟩,k.f31,fun _=>⟨h,by simpa [addL] using h7,by simpa [addL] using h9⟩,fun h=>⟨(k.f20 (by simpa [addL] using h)).1,by simp [addL]⟩,k.f33,k.f34,k.f35,k.f4,k.f5,k.f45,k.f6,k.s18,k.s19,k.s7,k.s9⟩
theorem JF.up12 {v:Value} (k:JF b1 L W x27 x28 x29 x30 x31 x32 x20 x33 x34 x35 x4 x5 x6) (h11:L 11=true) (h:∃ gt,v=.tuple #[.agg #[.string (B 37),.string (B 7),.string (B 1)],.agg #[.slice (some ⟨gt,0,none⟩) 4 4,.string ⟨#[]⟩,.int .i64 4],.int .i64 0]):JF b1 (addL L 12) W x27 x28 x29 x30 x31 x32 v x33 x34 x35 x4 x5 x6 :=
 ⟨k.f27,k.f28,k.f29,k.f30,k.f31,k.f32,fun _=>⟨h,by simpa [addL] using h11⟩,fun h=>⟨(k.f33 (by simpa [addL] using h)).1,by simp [addL]⟩,fun h=>⟨(k.f34 (by simpa [addL] using h)).1,by simp [addL]⟩,k.f35,k.f4,k.f5,k.f45,k.f6,k.s18,k.s19,k.s7,k.s9⟩
theorem JF.up13 {v:Value} (k:JF b1 L W x27 x28 x29 x30 x31 x32 x20 x33 x34 x35 x4 x5 x6) (h12:L 12=true) (h:v=.agg #[.string (B 37),.string (B 7),.string (B 1)]):JF b1 (addL L 13) W x27 x28 x29 x30 x31 x32 x20 v x34 x35 x4 x5 x6 :=
 ⟨k.f27,k.f28,k.f29,k.f30,k.f31,k.f32,k.f20,fun _=>⟨h,by simpa [addL] using h12⟩,k.f34,k.f35,k.f4,k.f5,k.f45,k.f6,k.s18,k.s19,k.s7,k.s9⟩
theorem JF.up14 {v:Value} (k:JF b1 L W x27 x28 x29 x30 x31 x32 x20 x33 x34 x35 x4 x5 x6) (h12:L 12=true) (h:∃ gt,v=.agg #[.slice (some ⟨gt,0,none⟩) 4 4,.string ⟨#[]⟩,.int .i64 4]):JF b1 (addL L 14) W x27 x28 x29 x30 x31 x32 x20 x33 v x35 x4 x5 x6 :=
 ⟨k.f27,k.f28,k.f29,k.f30,k.f31,k.f32,k.f20,k.f33,fun _=>⟨h,by simpa [addL] using h12⟩,k.f35,k.f4,k.f5,k.f45,k.f6,k.s18,k.s19,k.s7,k.s9⟩
theorem JF.up15 {v:Value} (k:JF b1 L W x27 x28 x29 x30 x31 x32 x20 x33 x34 x35 x4 x5 x6) (h:v=.int .i64 0):JF b1 (addL L 15) W x27 x28 x29 x30 x31 x32 x20 x33 x34 v x4 x5 x6 :=
 ⟨k.f27,k.f28,k.f29,k.f30,k.f31,k.f32,k.f20,k.f33,k.f34,fun _=>h,k.f4,k.f5,k.f45,k.f6,k.s18,k.s19,k.s7,k.s9⟩
theorem JF.up20 {v:Value} (k:JF b1 L W x27 x28 x29 x30 x31 x32 x20 x33 x34 x35 x4 x5 x6) (h:v=.int .i64 0):JF b1 (addL L 20) W x27 x28 x29 x30 x31 x32 x20 x33 x34 x35 x4 x5 v :=
 ⟨k.f27,k.f28,k.f29,k.f30,k.f31,k.f32,k.f20,k.f33,k.f34,k.f35,k.f4,k.f5,k.f45,fun _=>h,k.s18,k.s19,k.s7,k.s9⟩
theorem JF.up16 {v:Value} (k:JF b1 L W x27 x28 x29 x30 x31 x32 x20 x33 x34 x35 x4 x5 x6) (hL:L 18=false) (h:∃ b,v=.pointer (some ⟨b,0,none⟩)∧b1<b∧W.heap[b]?=some (.cells #[.string ⟨#[]⟩,.string ⟨#[]⟩,.string ⟨#[]⟩] 59 (0,0))) (hne:L 17=true→v≠x5):JF b1 (addL L 16) W x27 x28 x29 x30 x31 x32 x20 x33 x34 x35 v x5 x6 :=
 ⟨k.f27,k.f28,k.f29,k.f30,k.f31,k.f32,k.f20,k.f33,k.f34,k.f35,fun _=>by obtain ⟨b,e,h1,h2⟩:=h;exact ⟨b,e,h1,fun h3=>absurd (show L 18=true by simpa [addL] using h3) (by rw [hL];decide),fun _=>h2⟩,k.f5,fun _ h2=>hne (by simpa [addL] using h2),k.f6,fun _=>by simp [addL],k.s19,k.s7,k.s9⟩
theorem JF.up17 {v:Value} (k:JF b1 L W x27 x28 x29 x30 x31 x32 x20 x33 x34 x35 x4 x5 x6) (hL:L 19=false) (h:∃ b,v=.pointer (some ⟨b,0,none⟩)∧b1<b∧W.heap[b]?=some (.cells #[.slice none 0 0,.string ⟨#[]⟩,.int .i64 0] 39 (0,0))) (hne:L 16=true→x4≠v):JF b1 (addL L 17) W x27 x28 x29 x30 x31 x32 x20 x33 x34 x35 x4 v x6 :=
 ⟨k.f27,k.f28,k.f29,k.f30,k.f31,k.f32,k.f20,k.f33,k.f34,k.f35,k.f4,fun _=>by obtain ⟨b,e,h1,h2⟩:=h;exact ⟨b,e,h1,fun h3=>absurd (show L 19=true by simpa [addL] using h3) (by rw [hL];decide),fun _=>h2⟩,fun h1 _=>hne (by simpa [addL] using h1),k.f6,k.s18,fun _=>by simp [addL],k.s7,k.s9⟩
theorem JF.up18 {b4:Nat} (k:JF b1 L W x27 x28 x29 x30 x31 x32 x20 x33 x34 x35 x4 x5 x6) (h11:L 11=true) (h16:L 16=true) (e4:x4=.pointer (some ⟨b4,0,none⟩)) (ho:∀ i,i≠b4→W'.heap[i]?=W.heap[i]?) (hz:W'.heap.size=W.heap.size) (hn:W'.heap[b4]?=some (.cells #[.string (B 37),.string (B 7),.string (B 1)] 59 (0,0))):JF b1 (addL L 18) W' x27 x28 x29 x30 x31 x32 x20 x33 x34 x35 x4 x5 x6 :=
 ⟨fun h=>by obtain ⟨gu,e,_⟩:=k.f27 (by simpa [addL] using h);exact ⟨gu,e,fun h2=>absurd (k.f32 h11).2.1 (by rw [show L 7=false by simpa [addL] using h2];decide)⟩,
  fun h=>by obtain ⟨A,c,e,_⟩:=k.f28 (by simpa [addL] using h);exact ⟨A,c,e,fun h2=>absurd h11 (by rw [show L 11=false by simpa [addL] using h2];decide)⟩,
  fun h=>by obtain ⟨gu,e,_⟩:=k.f29 (by simpa [addL] using h);exact ⟨gu,e,fun h2=>absurd (k.f32 h11).2.2 (by rw [show L 9=false by simpa [addL] using h2];decide)⟩,
  fun h=>by obtain ⟨A,c,e,_⟩:=k.f30 (by simpa [addL] using h);exact ⟨A,c,e,fun h2=>absurd h11 (by rw [show L 11=false by simpa [addL] using h2];decide)⟩,
  k.f31,k.f32,k.f20,k.f33,k.f34,k.f35,
  fun _=>by
   obtain ⟨b,e,h1,_⟩:=k.f4 h16;have hb:b=b4:=by rw [e] at e4;injection e4 with e5;injection e5 with e6;exact congrArg Addr.block e6
   subst hb;exact ⟨b,e,h1,fun _=>hn,fun h=>by simp [addL] at h⟩,
  fun h=>by
   have h17:L 17=true:=by simpa [addL] using h
   obtain ⟨b,e,h1,h2,h3⟩:=k.f5 h17;have hb:b≠b4:=fun hb=>k.f45 h16 h17 (by rw [e4,e,hb])
   exact ⟨b,e,h1,fun h4=>by obtain ⟨gt,h5⟩:=h2 (by simpa [addL] using h4);exact ⟨gt,(ho b hb).trans h5⟩,fun h4=>(ho b hb).trans (h3 (by simpa [addL] using h4))⟩,
  k.f45,k.f6,fun _=>by simpa [addL] using h16,k.s19,k.s7,k.s9⟩
theorem JF.up19 {b5 gt:Nat} (k:JF b1 L W x27 x28 x29 x30 x31 x32 x20 x33 x34 x35 x4 x5 x6) (h11:L 11=true) (h17:L 17=true) (e5:x5=.pointer (some ⟨b5,0,none⟩)) (ho:∀ i,i≠b5→W'.heap[i]?=W.heap[i]?) (hz:W'.heap.size=W.heap.size) (hn:W'.heap[b5]?=some (.cells #[.slice (some ⟨gt,0,none⟩) 4 4,.string ⟨#[]⟩,.int .i64 4] 39 (0,0))):JF b1 (addL L 19) W' x27 x28 x29 x30 x31 x32 x20 x33 x34 x35 x4 x5 x6 :=
 ⟨fun h=>by obtain ⟨gu,e,_⟩:=k.f27 (by simpa [addL] using h);exact ⟨gu,e,fun h2=>absurd (k.f32 h11).2.1 (by rw [show L 7=false by simpa [addL] using h2];decide)⟩,
  fun h=>by obtain ⟨A,c,e,_⟩:=k.f28 (by simpa [addL] using h);exact ⟨A,c,e,fun h2=>absurd h11 (by rw [show L 11=false by simpa [addL] using h2];decide)⟩,
  fun h=>by obtain ⟨gu,e,_⟩:=k.f29 (by simpa [addL] using h);exact ⟨gu,e,fun h2=>absurd (k.f32 h11).2.2 (by rw [show L 9=false by simpa [addL] using h2];decide)⟩,
  fun h=>by obtain ⟨A,c,e,_⟩:=k.f30 (by simpa [addL] using h);exact ⟨A,c,e,fun h2=>absurd h11 (by rw [show L 11=false by simpa [addL] using h2];decide)⟩,
  k.f31,k.f32,k.f20,k.f33,k.f34,k.f35,
  fun h=>by
   have h16:L 16=true:=by simpa [addL] using h
   obtain ⟨b,e,h1,h2,h3⟩:=k.f4 h16;have hb:b≠b5:=fun hb=>k.f45 h16 h17 (by rw [e5,e,hb])
   exact ⟨b,e,h1,fun h4=>(ho b hb).trans (h2 (by simpa [addL] using h4)),fun h4=>(ho b hb).trans (h3 (by simpa [addL] using h4))⟩,
  fun _=>by
   obtain ⟨b,e,h1,_⟩:=k.f5 h17;have hb:b=b5:=by rw [e] at e5;injection e5 with e6;injection e6 with e7;exact congrArg Addr.block e7
   subst hb;exact ⟨b,e,h1,fun _=>⟨gt,hn⟩,fun h=>by simp [addL] at h⟩,
  k.f45,k.f6,k.s18,fun _=>by simpa [addL] using h17,k.s7,k.s9⟩
theorem JF.lt4 (k:JF b1 L W x27 x28 x29 x30 x31 x32 x20 x33 x34 x35 x4 x5 x6) (h:L 16=true):∃ b,x4=.pointer (some ⟨b,0,none⟩)∧b<W.heap.size:=by
 obtain ⟨b,e,_,h1,h2⟩:=k.f4 h
 cases hc:L 18 with
 | true=>exact ⟨b,e,(Array.getElem?_eq_some_iff.1 (h1 hc)).1⟩
 | false=>exact ⟨b,e,(Array.getElem?_eq_some_iff.1 (h2 hc)).1⟩
theorem JF.lt5 (k:JF b1 L W x27 x28 x29 x30 x31 x32 x20 x33 x34 x35 x4 x5 x6) (h:L 17=true):∃ b,x5=.pointer (some ⟨b,0,none⟩)∧b<W.heap.size:=by
 obtain ⟨b,e,_,h1,h2⟩:=k.f5 h
 cases hc:L 19 with
 | true=>obtain ⟨gt,h3⟩:=h1 hc;exact ⟨b,e,(Array.getElem?_eq_some_iff.1 h3).1⟩
 | false=>exact ⟨b,e,(Array.getElem?_eq_some_iff.1 (h2 hc)).1⟩
theorem ptr_ne {a b:Nat} (h:a≠b):Value.pointer (some ⟨a,0,none⟩)≠.pointer (some ⟨b,0,none⟩):=fun e=>by injection e with e1;injection e1 with e2;exact h (congrArg Addr.block e2)
theorem addL_keep {L:Nat→Bool} {i:Nat} (h:∀ j,j<6→L j=true):∀ j,j<6→addL L i j=true:=fun j hj=>by
 unfold addL
 split
 · rfl
 · exact h j hj
theorem not_yet {p q:Bool} (h:p=true→q=true) (hq:q=false):p=false:=by cases p<;>simp_all
theorem set3_oth (W:World) (b i:Nat) (x y z:Value) (h:i≠b):(((W.setCell ⟨b,0,none⟩ x).setCell ⟨b,1,none⟩ y).setCell ⟨b,2,none⟩ z).heap[i]?=W.heap[i]? :=
 (Below.heap_setCell _ _ _ _ h).trans ((Below.heap_setCell _ _ _ _ h).trans (Below.heap_setCell _ _ _ _ h))
theorem set3_bel (W:World) (b n:Nat) (x y z:Value) (h:n≤b):Below n W (((W.setCell ⟨b,0,none⟩ x).setCell ⟨b,1,none⟩ y).setCell ⟨b,2,none⟩ z) :=
 (((Below.refl _ _).setCell (p:=⟨b,0,none⟩) h _).setCell (p:=⟨b,1,none⟩) h _).setCell (p:=⟨b,2,none⟩) h _
theorem row3_cells {W:World} {b:Nat} {T:TypeId} {x y z:Value} (h:W.heap[b]?=some (.cells #[x,y,z] T (0,0))) :
  W.cell? ⟨b,0,none⟩=some x∧W.cell? ⟨b,1,none⟩=some y∧W.cell? ⟨b,2,none⟩=some z∧W.frozen? ⟨b,0,none⟩=false∧W.frozen? ⟨b,1,none⟩=false∧W.frozen? ⟨b,2,none⟩=false:=by
 refine ⟨?_,?_,?_,?_,?_,?_⟩<;>simp [World.cell?,World.frozen?,h]
theorem ext_trap {g:Nat}:(setEx g).extract 25 (25+(#[Value.string (B 7),.string (B 11)]:Array Value).size)=#[.string (B 7),.string (B 11)]:=rfl
end
theorem ex_msgS:msgS 0 (B 77) (B 9) (B 9) (B 6) [B 64,B 23,B 1] [B 1,B 3,B 5]=(B 64,0):=by decide +kernel
theorem ex_ver1:verS 0 (B 77) ⟨#[]⟩ (B 4) (B 15) (B 9) (B 9) (B 6) (B 3) (B 10) (B 2) (B 53) (B 7) (B 2) [B 64,B 23,B 1] [B 1,B 3,B 5]=0:=by decide +kernel
theorem ex_ver2:verS 0 (B 77) ⟨#[]⟩ (B 4) (B 15) (B 9) (B 9) (B 6) (B 3) (B 10) (B 2) (B 53) (B 7) (B 2) [B 64,B 23,B 1] [B 2,B 3,B 5]=19:=by decide +kernel
theorem nats_at (vs:List Nat) (gu n:Nat) (W:World) (hn:vs.length=n) (hm:n≤1000) (hv:vs.all (fun v=>decide (v<18446744073709551616))=true) (hU:URow W gu vs) (hg:gu<W.heap.size) :
  Calls Tryz.prog 15 #[.slice (some ⟨gu,0,none⟩) n n] W fun e w'=>(∃ A c,e=.returned (.slice A n c)∧SLs w' w'.heap.size A (vs.map B))∧Below W.heap.size W w' :=
 law30_nats vs gu n W hn hm (fun k hk=>by
  rw [List.getD_eq_getElem?_getD,List.getElem?_eq_getElem (by omega)]
  exact of_decide_eq_true (List.all_eq_true.1 hv _ (List.getElem_mem _))) hU hg
theorem law30_awake (w:World) (hT:Tab w) (hT10:Tab10 w):Calls Tryz.prog 6 #[] w fun e w'=>e=.returned (.bool true)∧Below w.heap.size w w':=by
 have KCH:=Lib.hid (fun wq (hb:Below w.heap.size w wq)=>(show Calls Tryz.prog 19 #[.agg #[.string (B 2),.string (B 2),.string (B 107),.string (B 53),.string (B 4),.string (B 16),.string (B 77),.string ⟨#[]⟩,.string (B 4),.string (B 9),.string (B 9),.string (B 6),.string (B 9),.string (B 3),.string (B 10),.string (B 2),.string (B 15)]] wq fun e w'=>e=.returned (.int .i64 0)∧Below wq.heap.size wq w' by
  have:=params_Check (B 2) (B 2) (B 107) (B 53) (B 4) (B 16) (B 77) ⟨#[]⟩ (B 4) (B 9) (B 9) (B 6) (B 9) (B 3) (B 10) (B 2) (B 15) wq (by decide +kernel) (by decide +kernel) (by decide +kernel) (by decide +kernel) (hT.below hb);rw [ex_par] at this
  exact this))
 have KMS:=Lib.hid (fun (wq:World) (g:Nat) (A2:Option Addr) (c2:Nat) (hb:Below w.heap.size w wq) (h1:SLs wq wq.heap.size (some ⟨g,0,none⟩) [B 64,B 23,B 1]) (h2:SLs wq wq.heap.size A2 [B 1,B 3,B 5])=>(show Calls Tryz.prog 14 #[.agg #[.string (B 2),.string (B 2),.string (B 107),.string (B 53),.string (B 4),.string (B 16),.string (B 77),.string ⟨#[]⟩,.string (B 4),.string (B 9),.string (B 9),.string (B 6),.string (B 9),.string (B 3),.string (B 10),.string (B 2),.string (B 15)],.agg #[.string ⟨#[105,115,115,117,101,114]⟩,.string (B 77),.string ⟨#[]⟩,.string (B 15),.string (B 4),.slice (some ⟨g,0,none⟩) 3 3,.string (B 4),.string (B 16)],.slice A2 3 c2] wq fun e w'=>e=.returned (.tuple #[.string (B 64),.int .i64 0])∧Below wq.heap.size wq w' by
  have:=cl_Message 0 (B 2) (B 2) (B 107) (B 53) (B 4) (B 16) (B 77) ⟨#[]⟩ (B 4) (B 9) (B 9) (B 6) (B 9) (B 3) (B 10) (B 2) (B 15) ⟨#[105,115,115,117,101,114]⟩ (B 77) ⟨#[]⟩ (B 15) (B 4) (B 4) (B 16) (some ⟨g,0,none⟩) A2 3 3 3 c2 [B 64,B 23,B 1] [B 1,B 3,B 5] wq (by decide +kernel) (by decide +kernel) rfl rfl (by decide) (by decide) h1 h2 (fun _=>by refine ⟨?_,?_,?_⟩<;>decide +kernel) (fun wq2 h2=>KCH.out _ (hb.trans (h2.mono hb.size)));rw [ex_key,ex_msgS] at this
  exact this))
 have KV1:=Lib.hid (fun (wq:World) (g:Nat) (A2:Option Addr) (c2:Nat) (hb:Below w.heap.size w wq) (h1:SLs wq wq.heap.size (some ⟨g,0,none⟩) [B 64,B 23,B 1]) (h2:SLs wq wq.heap.size A2 [B 1,B 3,B 5])=>(show Calls Tryz.prog 18 #[.agg #[.string (B 2),.string (B 2),.string (B 107),.string (B 53),.string (B 4),.string (B 16),.string (B 77),.string ⟨#[]⟩,.string (B 4),.string (B 9),.string (B 9),.string (B 6),.string (B 9),.string (B 3),.string (B 10),.string (B 2),.string (B 15)],.agg #[.string ⟨#[105,115,115,117,101,114]⟩,.string (B 77),.string ⟨#[]⟩,.string (B 15),.string (B 4),.slice (some ⟨g,0,none⟩) 3 3,.string (B 4),.string (B 16)],.slice A2 3 c2,.agg #[.string (B 53),.string (B 7),.string (B 2)]] wq fun e w'=>e=.returned (.int .i64 0)∧Below wq.heap.size wq w' by
  have:=cl_Verify 0 (B 2) (B 2) (B 107) (B 53) (B 4) (B 16) (B 77) ⟨#[]⟩ (B 4) (B 9) (B 9) (B 6) (B 9) (B 3) (B 10) (B 2) (B 15) ⟨#[105,115,115,117,101,114]⟩ (B 77) ⟨#[]⟩ (B 15) (B 4) (B 4) (B 16) (B 53) (B 7) (B 2) (some ⟨g,0,none⟩) A2 3 3 3 c2 [B 64,B 23,B 1] [B 1,B 3,B 5] wq (by decide +kernel) (by decide +kernel) rfl rfl (by decide) (by decide) h1 h2 (hT.below hb) (fun _=>by refine ⟨⟨?_,?_,?_⟩,?_,?_,?_⟩<;>decide +kernel) (fun wq2 h2=>KCH.out _ (hb.trans (h2.mono hb.size)));rw [ex_key,ex_ver1] at this
  exact this))
 have KV2:=Lib.hid (fun (wq:World) (g:Nat) (A2:Option Addr) (c2:Nat) (hb:Below w.heap.size w wq) (h1:SLs wq wq.heap.size (some ⟨g,0,none⟩) [B 64,B 23,B 1]) (h2:SLs wq wq.heap.size A2 [B 2,B 3,B 5])=>(show Calls Tryz.prog 18 #[.agg #[.string (B 2),.string (B 2),.string (B 107),.string (B 53),.string (B 4),.string (B 16),.string (B 77),.string ⟨#[]⟩,.string (B 4),.string (B 9),.string (B 9),.string (B 6),.string (B 9),.string (B 3),.string (B 10),.string (B 2),.string (B 15)],.agg #[.string ⟨#[105,115,115,117,101,114]⟩,.string (B 77),.string ⟨#[]⟩,.string (B 15),.string (B 4),.slice (some ⟨g,0,none⟩) 3 3,.string (B 4),.string (B 16)],.slice A2 3 c2,.agg #[.string (B 53),.string (B 7),.string (B 2)]] wq fun e w'=>e=.returned (.int .i64 19)∧Below wq.heap.size wq w' by
  have:=cl_Verify 0 (B 2) (B 2) (B 107) (B 53) (B 4) (B 16) (B 77) ⟨#[]⟩ (B 4) (B 9) (B 9) (B 6) (B 9) (B 3) (B 10) (B 2) (B 15) ⟨#[105,115,115,117,101,114]⟩ (B 77) ⟨#[]⟩ (B 15) (B 4) (B 4) (B 16) (B 53) (B 7) (B 2) (some ⟨g,0,none⟩) A2 3 3 3 c2 [B 64,B 23,B 1] [B 2,B 3,B 5] wq (by decide +kernel) (by decide +kernel) rfl rfl (by decide) (by decide) h1 h2 (hT.below hb) (fun _=>by refine ⟨⟨?_,?_,?_⟩,?_,?_,?_⟩<;>decide +kernel) (fun wq2 h2=>KCH.out _ (hb.trans (h2.mono hb.size)));rw [ex_key,ex_ver2] at this
  exact this))
 have HT:=Lib.hid hT;have HT10:=Lib.hid hT10;clear hT hT10 KCH
 go_enter Tryz.func6, Tryz.ntmps6
 go_upto_region 2 with (first|(go_at_call 13;(with_reducible refine (law30_example _).mono ?_);rintro e w1 ⟨g,rfl,hsl,hb1⟩;have HSL:=Lib.hid hsl;have HB1:=Lib.hid hb1;clear hsl hb1)|((with_reducible refine wpList_look ?_);refine wpList_store_sub rfl 37 _ _ rfl w1.heap.size 0 rfl (setEx g).toList rfl 37 z27 (setEx g) (heap_alloc_new w1 (.cells z27 37)) rfl (show 0+27≤27 from Nat.le_refl _) (c27.trans rfl) (fun v hv=>Array.all_eq_true_iff_forall_mem.1 (setEx_one g) v (by simpa using hv)) ?_;intro w2 hp2;have HP2:=Lib.hid hp2;clear hp2))
 obtain ⟨b1,hb1⟩:∃ b1,b1=w1.heap.size:=⟨_,rfl⟩;have hbw:Below w1.heap.size w1 w2:=HP2.out.bel _ _ (Nat.le_refl _) ((Below.refl _ _).alloc (Nat.le_refl _) _);have haw:AwS w b1 g w2:=⟨by rw [hb1];exact HP2.out.blk,by rw [hb1];exact HSL.out.below hbw,by rw [hb1];exact HB1.out.size,HB1.out.trans (hbw.mono HB1.out.size)⟩;rw [← hb1];have HW:=Lib.hid haw;clear haw hbw hb1 HP2 HSL HB1
 try simp only [Act.put]
 go_cut [2,3] (fun p q wx=>p=.string (B 64)∧q=.int .i64 0∧AwS w b1 g wx)
 case first =>
  refine wp_region_held_drew (S:=(fun w'=>AwS w b1 g w')) (by kernel_rfl) ?_ (fun hHeld=>?_)
  · exact HW.out.drew
  have HWd:=Lib.hid HW.out.drew;refine tk (i:=0) (v:=.pointer (some ⟨b1,0,none⟩)) 11 rfl (.inl ⟨by rfl,?_⟩) ?_
  · intro w' hS;go_simp<;>with_reducible rfl
  try simp only [Act.put,sT,List.set]
  refine tk (i:=1) (v:=.agg #[.string (B 2),.string (B 2),.string (B 107),.string (B 53),.string (B 4),.string (B 16),.string (B 77),.string ⟨#[]⟩,.string (B 4),.string (B 9),.string (B 9),.string (B 6),.string (B 9),.string (B 3),.string (B 10),.string (B 2),.string (B 15)]) 12 rfl (.inl ⟨by rfl,?_⟩) ?_
  · intro w' hS;exact run_exec_load_sub 30 (.tmp 11) rfl b1 0 rfl 37 _ (setEx g) _ _ hS.set ext_par Tryz.underlying30 rfl (info17'.trans rfl)
  try simp only [Act.put,sT,List.set]
  refine tk (i:=2) (v:=.pointer (some ⟨b1,17,none⟩)) 13 rfl (.inl ⟨by rfl,?_⟩) ?_
  · intro w' hS;go_simp<;>with_reducible rfl
  try simp only [Act.put,sT,List.set]
  refine tk (i:=3) (v:=.agg #[.string ⟨#[105,115,115,117,101,114]⟩,.string (B 77),.string ⟨#[]⟩,.string (B 15),.string (B 4),.slice (some ⟨g,0,none⟩) 3 3,.string (B 4),.string (B 16)]) 14 rfl (.inl ⟨by rfl,?_⟩) ?_
  · intro w' hS;exact run_exec_load_sub 33 (.tmp 13) rfl b1 17 rfl 37 _ (setEx g) _ _ hS.set ext_key Tryz.underlying33 rfl (info8'.trans rfl)
  try simp only [Act.put,sT,List.set]
  refine wpAnyH_ready (rs:=[4]) (by kernel_rfl) (by simp) ?_;refine AllReadyH.cons rfl (fun K hK=>?_) AllReadyH.nil;go_simp;refine hK.out _ _ (HWd.out.alloc _) (fun hHeld=>?_);clear hK K
  try simp only [Act.put,sT,List.set]
  refine wpAnyH_ready (rs:=[5]) (by kernel_rfl) (by simp) ?_;refine AllReadyH.cons rfl (fun K hK=>?_) AllReadyH.nil;go_simp
  ((refine (nats_at [1,3,5] _ 3 _ rfl (by decide) (by decide) ?_ ?_).mono ?_);(focus (exact urow3 w2 _ 1 3 5));(focus (simp));rintro e w3 ⟨⟨A3,c3,rfl,hs3⟩,hb3⟩;have Hw3:=Lib.hid (((HW.out.alloc _).drew).next hb3);have HSw3:Hid (SLs w3 w3.heap.size A3 (List.map B [1,3,5])):=Lib.hid hs3;clear hs3 hb3)
  go_wp2_with fail;refine hK.out _ _ ?_ (fun hHeld=>?_)
  · exact Hw3.out
  clear hK K
  try simp only [Act.put,sT,List.set]
  refine wpAnyH_ready (rs:=[6]) (by kernel_rfl) (by simp) ?_;refine AllReadyH.cons rfl (fun K hK=>?_) AllReadyH.nil;go_simp
  ((refine (KMS.out _ g A3 c3 Hw3.out.bel Hw3.out.rows HSw3.out).mono ?_);rintro e w4 ⟨rfl,hb4⟩;have Hw4:=Lib.hid (Hw3.out.next hb4);clear hb4)
  go_wp2_with fail;refine hK.out _ _ ?_ (fun hHeld=>?_)
  · exact Hw4.out
  clear hK K
  try simp only [Act.put,sT,List.set]
  refine tk (i:=7) (v:=?_) 10 rfl (.inl ⟨by rfl,?_⟩) ?_;rotate_left
  · intro w hSw;(try dsimp only at hSw);go_simp<;>with_reducible rfl
  try simp only [Act.put,sT,List.set]
  refine tk (i:=8) (v:=?_) 18 rfl (.inl ⟨by rfl,?_⟩) ?_;rotate_left
  · intro w hSw;(try dsimp only at hSw);go_simp<;>with_reducible rfl
  try simp only [Act.put,sT,List.set]
  refine tk (i:=9) (v:=?_) 19 rfl (.inl ⟨by rfl,?_⟩) ?_;rotate_left
  · intro w hSw;(try dsimp only at hSw);go_simp<;>with_reducible rfl
  try simp only [Act.put,sT,List.set]
  refine tk (i:=10) (v:=?_) 2 rfl (.inl ⟨by rfl,?_⟩) ?_;rotate_left
  · intro w hSw;(try dsimp only at hSw);go_simp<;>with_reducible rfl
  try simp only [Act.put,sT,List.set]
  refine tk (i:=11) (v:=?_) 3 rfl (.inl ⟨by rfl,?_⟩) ?_;rotate_left
  · intro w hSw;(try dsimp only at hSw);go_simp<;>with_reducible rfl
  try simp only [Act.put,sT,List.set]
  refine wpAnyH_done (by kernel_rfl) ?_ _;go_wp2_with fail;go_meet;exact ⟨rfl,rfl,Hw4.out⟩
 case rest =>
  obtain ⟨rfl,rfl,hcut⟩:=hcut;have HW2:=Lib.hid hcut;clear hcut HW w1 w2;go_upto_region 3 with fail
  go_cut [4,5,6] (fun p q r wx=>∃ b4 b5 gt,p=.pointer (some ⟨b4,0,none⟩)∧q=.pointer (some ⟨b5,0,none⟩)∧r=.int .i64 0∧AwS w b1 g wx∧(b1<b4∧b1<b5)∧wx.heap[b4]?=some (.cells #[.string (B 37),.string (B 7),.string (B 1)] 59 (0,0))∧wx.heap[b5]?=some (.cells #[.slice (some ⟨gt,0,none⟩) 4 4,.string ⟨#[]⟩,.int .i64 4] 39 (0,0)))
  case first =>
   refine wp_region_held_drew (S:=(fun w'=>AwS w b1 g w')) (by kernel_rfl) ?_ (fun hHeld=>?_)
   · exact HW2.out.drew
   have HWd:=Lib.hid HW2.out.drew;refine tk (i:=0) (v:=.pointer (some ⟨b1,0,none⟩)) 21 rfl (.inl ⟨by rfl,?_⟩) ?_
   · intro w' hS;go_simp<;>with_reducible rfl
   try simp only [Act.put,sT,List.set]
   refine tk (i:=1) (v:=.agg #[.string (B 2),.string (B 2),.string (B 107),.string (B 53),.string (B 4),.string (B 16),.string (B 77),.string ⟨#[]⟩,.string (B 4),.string (B 9),.string (B 9),.string (B 6),.string (B 9),.string (B 3),.string (B 10),.string (B 2),.string (B 15)]) 22 rfl (.inl ⟨by rfl,?_⟩) ?_
   · intro w' hS;exact run_exec_load_sub 30 (.tmp 21) rfl b1 0 rfl 37 _ (setEx g) _ _ hS.set ext_par Tryz.underlying30 rfl (info17'.trans rfl)
   try simp only [Act.put,sT,List.set]
   refine tk (i:=2) (v:=.pointer (some ⟨b1,17,none⟩)) 23 rfl (.inl ⟨by rfl,?_⟩) ?_
   · intro w' hS;go_simp<;>with_reducible rfl
   try simp only [Act.put,sT,List.set]
   refine tk (i:=3) (v:=.agg #[.string ⟨#[105,115,115,117,101,114]⟩,.string (B 77),.string ⟨#[]⟩,.string (B 15),.string (B 4),.slice (some ⟨g,0,none⟩) 3 3,.string (B 4),.string (B 16)]) 24 rfl (.inl ⟨by rfl,?_⟩) ?_
   · intro w' hS;exact run_exec_load_sub 33 (.tmp 23) rfl b1 17 rfl 37 _ (setEx g) _ _ hS.set ext_key Tryz.underlying33 rfl (info8'.trans rfl)
   try simp only [Act.put,sT,List.set]
   refine tk (i:=4) (v:=.pointer (some ⟨b1,25,none⟩)) 25 rfl (.inl ⟨by rfl,?_⟩) ?_
   · intro w' hS;go_simp<;>with_reducible rfl
   try simp only [Act.put,sT,List.set]
   refine tk (i:=5) (v:=.agg #[.string (B 7),.string (B 11)]) 26 rfl (.inl ⟨by rfl,?_⟩) ?_
   · intro w' hS;exact run_exec_load_sub 35 (.tmp 25) rfl b1 25 rfl 37 _ (setEx g) _ _ hS.set ext_trap Tryz.underlying35 rfl (info2'.trans rfl)
   try simp only [Act.put,sT,List.set]
   refine wpAnyH_gen (fun a0 ha0=>?_);refine wpAnyH_inv (J:=fun L a W=>(∀ i,i<6→L i=true)∧AwS w b1 g W∧∃ x27 x28 x29 x30 x31 x32 x20 x33 x34 x35 x4 x5 x6:Value,a=(((((((((((((a0.put (some 27) x27).put (some 28) x28).put (some 29) x29).put (some 30) x30).put (some 31) x31).put (some 32) x32).put (some 20) x20).put (some 33) x33).put (some 34) x34).put (some 35) x35).put (some 4) x4).put (some 5) x5).put (some 6) x6)∧JF b1 L W x27 x28 x29 x30 x31 x32 x20 x33 x34 x35 x4 x5 x6) (fun _ _ _ h=>h.2.1) (back_of (by kernel_rfl)) ?_ ?_ _ _ _ _ (by kernel_rfl) (by decide +kernel) ?_;rotate_left 2
   · refine ⟨by decide +kernel,HWd.out,u27,u28,u29,u30,u31,u32,u20,u33,u34,u35,undef,undef,undef,?_,?_⟩
     · subst ha0;simp only [Act.put,sT,List.set]
     · constructor<;>(intro h;exact absurd h (by decide +kernel))
   rotate_left 1
   · rintro L a W ⟨hB,hA,x27,x28,x29,x30,x31,x32,x20,x33,x34,x35,x4,x5,x6,rfl,hF⟩ hall
     obtain ⟨b4,rfl,hl4,hs4,_⟩:=hF.f4 (hall 16 (by decide +kernel));obtain ⟨b5,rfl,hl5,hs5,_⟩:=hF.f5 (hall 17 (by decide +kernel));have h4:=hs4 (hall 18 (by decide +kernel));obtain ⟨gt,h5⟩:=hs5 (hall 19 (by decide +kernel));obtain rfl:=hF.f6 (hall 20 (by decide +kernel));subst ha0;simp only [Act.put,sT,List.set];go_wp2_with fail;go_meet;exact ⟨b4,b5,gt,rfl,rfl,rfl,hA,⟨hl4,hl5⟩,h4,h5⟩
   refine (show StepsJ _ _ _ _ _ [0,1,2,3,4,5,6,7,8,9,10,11,12,13,14,15,16,17,18,19,20] from ?_);refine StepsJ.cons rfl (fun L a W hJ hL ha K hK=>absurd (hJ.1 0 (by decide)) (by rw [hL];decide)) ?_;refine StepsJ.cons rfl (fun L a W hJ hL ha K hK=>absurd (hJ.1 1 (by decide)) (by rw [hL];decide)) ?_;refine StepsJ.cons rfl (fun L a W hJ hL ha K hK=>absurd (hJ.1 2 (by decide)) (by rw [hL];decide)) ?_;refine StepsJ.cons rfl (fun L a W hJ hL ha K hK=>absurd (hJ.1 3 (by decide)) (by rw [hL];decide)) ?_;refine StepsJ.cons rfl (fun L a W hJ hL ha K hK=>absurd (hJ.1 4 (by decide)) (by rw [hL];decide)) ?_;refine StepsJ.cons rfl (fun L a W hJ hL ha K hK=>absurd (hJ.1 5 (by decide)) (by rw [hL];decide)) ?_;refine StepsJ.cons rfl (fun L a W hJ hL ha K hK=>?_) ?_
   · obtain ⟨hB,hA,x27,x28,x29,x30,x31,x32,x20,x33,x34,x35,x4,x5,x6,rfl,hF⟩:=hJ
     subst ha0;refine ⟨?_⟩;simp only [Act.put,sT,List.set];go_simp;refine hK.out _ _ ⟨addL_keep hB,hA.alloc _,(.slice (some ⟨W.heap.size,0,none⟩) 3 3),x28,x29,x30,x31,x32,x20,x33,x34,x35,x4,x5,x6,?_,(hF.next (((Below.refl _ _).alloc (Nat.le_refl _) _))).up6 (not_yet hF.s7 hL) ⟨_,rfl,by simp,urow3 W _ 1 3 5⟩⟩;simp only [Act.put,sT,List.set]
   refine StepsJ.cons rfl (fun L a W hJ hL ha K hK=>?_) ?_
   · obtain ⟨hB,hA,x27,x28,x29,x30,x31,x32,x20,x33,x34,x35,x4,x5,x6,rfl,hF⟩:=hJ
     have h6:=(ha { on:=6,ground:=Ground.data } (by first|exact Array.mem_of_getElem? (i:=0) rfl|exact Array.mem_of_getElem? (i:=1) rfl|exact Array.mem_of_getElem? (i:=2) rfl|exact Array.mem_of_getElem? (i:=3) rfl|exact Array.mem_of_getElem? (i:=4) rfl) rfl);obtain ⟨gu,rfl,hr⟩:=hF.f27 h6;have hr:=hr hL;subst ha0;refine ⟨?_⟩;simp only [Act.put,sT,List.set];go_simp;refine (nats_at [1,3,5] gu 3 _ rfl (by decide) (by decide) hr.2 hr.1).mono ?_;rintro e w3 ⟨⟨A3,c3,rfl,hs3⟩,hb3⟩;go_wp2_with fail;refine hK.out _ _ ⟨addL_keep hB,hA.next hb3,(.slice (some ⟨gu,0,none⟩) 3 3),(.slice A3 3 c3),x29,x30,x31,x32,x20,x33,x34,x35,x4,x5,x6,?_,(hF.next hb3).up7 h6 ⟨_,_,rfl,hs3⟩⟩;simp only [Act.put,sT,List.set]
   refine StepsJ.cons rfl (fun L a W hJ hL ha K hK=>?_) ?_
   · obtain ⟨hB,hA,x27,x28,x29,x30,x31,x32,x20,x33,x34,x35,x4,x5,x6,rfl,hF⟩:=hJ
     subst ha0;refine ⟨?_⟩;simp only [Act.put,sT,List.set];go_simp;refine hK.out _ _ ⟨addL_keep hB,hA.alloc _,x27,x28,(.slice (some ⟨W.heap.size,0,none⟩) 4 4),x30,x31,x32,x20,x33,x34,x35,x4,x5,x6,?_,(hF.next (((Below.refl _ _).alloc (Nat.le_refl _) _))).up8 (not_yet hF.s9 hL) ⟨_,rfl,by simp,urow4 W _ 0 2 4 1⟩⟩;simp only [Act.put,sT,List.set]
   refine StepsJ.cons rfl (fun L a W hJ hL ha K hK=>?_) ?_
   · obtain ⟨hB,hA,x27,x28,x29,x30,x31,x32,x20,x33,x34,x35,x4,x5,x6,rfl,hF⟩:=hJ
     have h8:=(ha { on:=8,ground:=Ground.data } (by first|exact Array.mem_of_getElem? (i:=0) rfl|exact Array.mem_of_getElem? (i:=1) rfl|exact Array.mem_of_getElem? (i:=2) rfl|exact Array.mem_of_getElem? (i:=3) rfl|exact Array.mem_of_getElem? (i:=4) rfl) rfl);obtain ⟨gu,rfl,hr⟩:=hF.f29 h8;have hr:=hr hL;subst ha0;refine ⟨?_⟩;simp only [Act.put,sT,List.set];go_simp;refine (nats_at [0,2,4,1] gu 4 _ rfl (by decide) (by decide) hr.2 hr.1).mono ?_;rintro e w3 ⟨⟨A3,c3,rfl,hs3⟩,hb3⟩;go_wp2_with fail;refine hK.out _ _ ⟨addL_keep hB,hA.next hb3,x27,x28,(.slice (some ⟨gu,0,none⟩) 4 4),(.slice A3 4 c3),x31,x32,x20,x33,x34,x35,x4,x5,x6,?_,(hF.next hb3).up9 h8 (not_yet (fun h=>(hF.f31 h).2) hL) ⟨_,_,rfl,hs3⟩⟩;simp only [Act.put,sT,List.set]
   refine StepsJ.cons rfl (fun L a W hJ hL ha K hK=>?_) ?_
   · obtain ⟨hB,hA,x27,x28,x29,x30,x31,x32,x20,x33,x34,x35,x4,x5,x6,rfl,hF⟩:=hJ
     have h9:=(ha { on:=9,ground:=Ground.data } (by first|exact Array.mem_of_getElem? (i:=0) rfl|exact Array.mem_of_getElem? (i:=1) rfl|exact Array.mem_of_getElem? (i:=2) rfl|exact Array.mem_of_getElem? (i:=3) rfl|exact Array.mem_of_getElem? (i:=4) rfl) rfl);obtain ⟨A3,c3,e30,hs⟩:=hF.f30 h9;subst e30;subst ha0;refine ⟨?_⟩;simp only [Act.put,sT,List.set];go_simp;refine hK.out _ _ ⟨addL_keep hB,hA,x27,x28,x29,(.slice A3 4 c3),(.agg #[.slice A3 4 c3,.string ⟨#[]⟩,.int .i64 0]),x32,x20,x33,x34,x35,x4,x5,x6,?_,hF.up10 h9 rfl⟩;simp only [Act.put,sT,List.set]
   refine StepsJ.cons rfl (fun L a W hJ hL ha K hK=>?_) ?_
   · obtain ⟨hB,hA,x27,x28,x29,x30,x31,x32,x20,x33,x34,x35,x4,x5,x6,rfl,hF⟩:=hJ
     have h7:=(ha { on:=7,ground:=Ground.data } (by first|exact Array.mem_of_getElem? (i:=0) rfl|exact Array.mem_of_getElem? (i:=1) rfl|exact Array.mem_of_getElem? (i:=2) rfl|exact Array.mem_of_getElem? (i:=3) rfl|exact Array.mem_of_getElem? (i:=4) rfl) rfl);have h10:=(ha { on:=10,ground:=Ground.data } (by first|exact Array.mem_of_getElem? (i:=0) rfl|exact Array.mem_of_getElem? (i:=1) rfl|exact Array.mem_of_getElem? (i:=2) rfl|exact Array.mem_of_getElem? (i:=3) rfl|exact Array.mem_of_getElem? (i:=4) rfl) rfl);obtain ⟨A2,c2,e28,hs2⟩:=hF.f28 h7;obtain ⟨e31,h9⟩:=hF.f31 h10;obtain ⟨A3,c3,e30,hs3⟩:=hF.f30 h9;subst e28;subst e30;subst e31;subst ha0;refine ⟨?_⟩;simp only [Act.put,sT,List.set];go_simp;refine (sign_ex (some ⟨g,0,none⟩) A2 A3 3 c2 c3 _ hA.rows (hs2 hL) (hs3 hL) (HT.out.below hA.bel) (HT10.out.below hA.bel)).mono ?_;rintro e w5 ⟨⟨gt,rfl⟩,hb5⟩;go_wp2_with fail;refine hK.out _ _ ⟨addL_keep hB,hA.next hb5,x27,(.slice A2 3 c2),x29,(.slice A3 4 c3),(.agg #[.slice A3 4 c3,.string ⟨#[]⟩,.int .i64 0]),(.tuple #[.agg #[.string (B 37),.string (B 7),.string (B 1)],.agg #[.slice (some ⟨gt,0,none⟩) 4 4,.string ⟨#[]⟩,.int .i64 4],.int .i64 0]),x20,x33,x34,x35,x4,x5,x6,?_,(hF.next hb5).up11 h7 h9 ⟨gt,rfl⟩⟩;simp only [Act.put,sT,List.set]
   refine StepsJ.cons rfl (fun L a W hJ hL ha K hK=>?_) ?_
   · obtain ⟨hB,hA,x27,x28,x29,x30,x31,x32,x20,x33,x34,x35,x4,x5,x6,rfl,hF⟩:=hJ
     have h11:=(ha { on:=11,ground:=Ground.data } (by first|exact Array.mem_of_getElem? (i:=0) rfl|exact Array.mem_of_getElem? (i:=1) rfl|exact Array.mem_of_getElem? (i:=2) rfl|exact Array.mem_of_getElem? (i:=3) rfl|exact Array.mem_of_getElem? (i:=4) rfl) rfl);obtain ⟨⟨gt,e32⟩,_⟩:=hF.f32 h11;subst e32;subst ha0;refine ⟨?_⟩;simp only [Act.put,sT,List.set];go_simp;refine hK.out _ _ ⟨addL_keep hB,hA,x27,x28,x29,x30,x31,(.tuple #[.agg #[.string (B 37),.string (B 7),.string (B 1)],.agg #[.slice (some ⟨gt,0,none⟩) 4 4,.string ⟨#[]⟩,.int .i64 4],.int .i64 0]),(.tuple #[.agg #[.string (B 37),.string (B 7),.string (B 1)],.agg #[.slice (some ⟨gt,0,none⟩) 4 4,.string ⟨#[]⟩,.int .i64 4],.int .i64 0]),x33,x34,x35,x4,x5,x6,?_,hF.up12 h11 ⟨gt,rfl⟩⟩;simp only [Act.put,sT,List.set]
   refine StepsJ.cons rfl (fun L a W hJ hL ha K hK=>?_) ?_
   · obtain ⟨hB,hA,x27,x28,x29,x30,x31,x32,x20,x33,x34,x35,x4,x5,x6,rfl,hF⟩:=hJ
     have h12:=(ha { on:=12,ground:=Ground.data } (by first|exact Array.mem_of_getElem? (i:=0) rfl|exact Array.mem_of_getElem? (i:=1) rfl|exact Array.mem_of_getElem? (i:=2) rfl|exact Array.mem_of_getElem? (i:=3) rfl|exact Array.mem_of_getElem? (i:=4) rfl) rfl);obtain ⟨⟨gt,e20⟩,_⟩:=hF.f20 h12;subst e20;subst ha0;refine ⟨?_⟩;simp only [Act.put,sT,List.set];go_simp;refine hK.out _ _ ⟨addL_keep hB,hA,x27,x28,x29,x30,x31,x32,(.tuple #[.agg #[.string (B 37),.string (B 7),.string (B 1)],.agg #[.slice (some ⟨gt,0,none⟩) 4 4,.string ⟨#[]⟩,.int .i64 4],.int .i64 0]),(.agg #[.string (B 37),.string (B 7),.string (B 1)]),x34,x35,x4,x5,x6,?_,hF.up13 h12 rfl⟩;simp only [Act.put,sT,List.set]
   refine StepsJ.cons rfl (fun L a W hJ hL ha K hK=>?_) ?_
   · obtain ⟨hB,hA,x27,x28,x29,x30,x31,x32,x20,x33,x34,x35,x4,x5,x6,rfl,hF⟩:=hJ
     have h12:=(ha { on:=12,ground:=Ground.data } (by first|exact Array.mem_of_getElem? (i:=0) rfl|exact Array.mem_of_getElem? (i:=1) rfl|exact Array.mem_of_getElem? (i:=2) rfl|exact Array.mem_of_getElem? (i:=3) rfl|exact Array.mem_of_getElem? (i:=4) rfl) rfl);obtain ⟨⟨gt,e20⟩,_⟩:=hF.f20 h12;subst e20;subst ha0;refine ⟨?_⟩;simp only [Act.put,sT,List.set];go_simp;refine hK.out _ _ ⟨addL_keep hB,hA,x27,x28,x29,x30,x31,x32,(.tuple #[.agg #[.string (B 37),.string (B 7),.string (B 1)],.agg #[.slice (some ⟨gt,0,none⟩) 4 4,.string ⟨#[]⟩,.int .i64 4],.int .i64 0]),x33,(.agg #[.slice (some ⟨gt,0,none⟩) 4 4,.string ⟨#[]⟩,.int .i64 4]),x35,x4,x5,x6,?_,hF.up14 h12 ⟨gt,rfl⟩⟩;simp only [Act.put,sT,List.set]
   refine StepsJ.cons rfl (fun L a W hJ hL ha K hK=>?_) ?_
   · obtain ⟨hB,hA,x27,x28,x29,x30,x31,x32,x20,x33,x34,x35,x4,x5,x6,rfl,hF⟩:=hJ
     have h12:=(ha { on:=12,ground:=Ground.data } (by first|exact Array.mem_of_getElem? (i:=0) rfl|exact Array.mem_of_getElem? (i:=1) rfl|exact Array.mem_of_getElem? (i:=2) rfl|exact Array.mem_of_getElem? (i:=3) rfl|exact Array.mem_of_getElem? (i:=4) rfl) rfl);obtain ⟨⟨gt,e20⟩,_⟩:=hF.f20 h12;subst e20;subst ha0;refine ⟨?_⟩;simp only [Act.put,sT,List.set];go_simp;refine hK.out _ _ ⟨addL_keep hB,hA,x27,x28,x29,x30,x31,x32,(.tuple #[.agg #[.string (B 37),.string (B 7),.string (B 1)],.agg #[.slice (some ⟨gt,0,none⟩) 4 4,.string ⟨#[]⟩,.int .i64 4],.int .i64 0]),x33,x34,(.int .i64 0),x4,x5,x6,?_,hF.up15 rfl⟩;simp only [Act.put,sT,List.set]
   refine StepsJ.cons rfl (fun L a W hJ hL ha K hK=>?_) ?_
   · obtain ⟨hB,hA,x27,x28,x29,x30,x31,x32,x20,x33,x34,x35,x4,x5,x6,rfl,hF⟩:=hJ
     subst ha0;refine ⟨?_⟩;simp only [Act.put,sT,List.set];go_simp;refine hK.out _ _ ⟨addL_keep hB,hA.alloc _,x27,x28,x29,x30,x31,x32,x20,x33,x34,x35,(.pointer (some ⟨W.heap.size,0,none⟩)),x5,x6,?_,(hF.next (((Below.refl _ _).alloc (Nat.le_refl _) _))).up16 (not_yet hF.s18 hL) ⟨_,rfl,hA.lt,heap_alloc_new W _⟩ (fun h=>by obtain ⟨b,e,hb⟩:=hF.lt5 h;rw [e];exact ptr_ne (by omega))⟩;simp only [Act.put,sT,List.set]
   refine StepsJ.cons rfl (fun L a W hJ hL ha K hK=>?_) ?_
   · obtain ⟨hB,hA,x27,x28,x29,x30,x31,x32,x20,x33,x34,x35,x4,x5,x6,rfl,hF⟩:=hJ
     subst ha0;refine ⟨?_⟩;simp only [Act.put,sT,List.set];go_simp;refine hK.out _ _ ⟨addL_keep hB,hA.alloc _,x27,x28,x29,x30,x31,x32,x20,x33,x34,x35,x4,(.pointer (some ⟨W.heap.size,0,none⟩)),x6,?_,(hF.next (((Below.refl _ _).alloc (Nat.le_refl _) _))).up17 (not_yet hF.s19 hL) ⟨_,rfl,hA.lt,heap_alloc_new W _⟩ (fun h=>by obtain ⟨b,e,hb⟩:=hF.lt4 h;rw [e];exact ptr_ne (by omega))⟩;simp only [Act.put,sT,List.set]
   refine StepsJ.cons rfl (fun L a W hJ hL ha K hK=>?_) ?_
   · obtain ⟨hB,hA,x27,x28,x29,x30,x31,x32,x20,x33,x34,x35,x4,x5,x6,rfl,hF⟩:=hJ
     have h13:=(ha { on:=13,ground:=Ground.data } (by first|exact Array.mem_of_getElem? (i:=0) rfl|exact Array.mem_of_getElem? (i:=1) rfl|exact Array.mem_of_getElem? (i:=2) rfl|exact Array.mem_of_getElem? (i:=3) rfl|exact Array.mem_of_getElem? (i:=4) rfl) rfl);have h16:=(ha { on:=16,ground:=Ground.data } (by first|exact Array.mem_of_getElem? (i:=0) rfl|exact Array.mem_of_getElem? (i:=1) rfl|exact Array.mem_of_getElem? (i:=2) rfl|exact Array.mem_of_getElem? (i:=3) rfl|exact Array.mem_of_getElem? (i:=4) rfl) rfl);obtain ⟨e33,h12⟩:=hF.f33 h13;have h11:=(hF.f20 h12).2;obtain ⟨b4,e4,hl4,_,hz⟩:=hF.f4 h16;have hz:=hz hL;subst e33;subst e4;obtain ⟨c0,c1,c2,f0,f1,f2⟩:=row3_cells hz;subst ha0;refine ⟨?_⟩;simp only [Act.put,sT,List.set];go_simp;refine hK.out _ _ ⟨addL_keep hB,hA.next' (set3_bel W b4 (b1+1) _ _ _ hl4) (Nat.lt_succ_self _),x27,x28,x29,x30,x31,x32,x20,(.agg #[.string (B 37),.string (B 7),.string (B 1)]),x34,x35,(.pointer (some ⟨b4,0,none⟩)),x5,x6,?_,hF.up18 h11 h16 rfl (fun i hi=>set3_oth W b4 i _ _ _ hi) (by simp) (row3_set hz)⟩;simp only [Act.put,sT,List.set]
   refine StepsJ.cons rfl (fun L a W hJ hL ha K hK=>?_) ?_
   · obtain ⟨hB,hA,x27,x28,x29,x30,x31,x32,x20,x33,x34,x35,x4,x5,x6,rfl,hF⟩:=hJ
     have h14:=(ha { on:=14,ground:=Ground.data } (by first|exact Array.mem_of_getElem? (i:=0) rfl|exact Array.mem_of_getElem? (i:=1) rfl|exact Array.mem_of_getElem? (i:=2) rfl|exact Array.mem_of_getElem? (i:=3) rfl|exact Array.mem_of_getElem? (i:=4) rfl) rfl);have h17:=(ha { on:=17,ground:=Ground.data } (by first|exact Array.mem_of_getElem? (i:=0) rfl|exact Array.mem_of_getElem? (i:=1) rfl|exact Array.mem_of_getElem? (i:=2) rfl|exact Array.mem_of_getElem? (i:=3) rfl|exact Array.mem_of_getElem? (i:=4) rfl) rfl);obtain ⟨⟨gt,e34⟩,h12⟩:=hF.f34 h14;have h11:=(hF.f20 h12).2;obtain ⟨b5,e5,hl5,_,hz⟩:=hF.f5 h17;have hz:=hz hL;subst e34;subst e5;obtain ⟨c0,c1,c2,f0,f1,f2⟩:=row3_cells hz;subst ha0;refine ⟨?_⟩;simp only [Act.put,sT,List.set];go_simp;refine hK.out _ _ ⟨addL_keep hB,hA.next' (set3_bel W b5 (b1+1) _ _ _ hl5) (Nat.lt_succ_self _),x27,x28,x29,x30,x31,x32,x20,x33,(.agg #[.slice (some ⟨gt,0,none⟩) 4 4,.string ⟨#[]⟩,.int .i64 4]),x35,x4,(.pointer (some ⟨b5,0,none⟩)),x6,?_,hF.up19 (gt:=gt) h11 h17 rfl (fun i hi=>set3_oth W b5 i _ _ _ hi) (by simp) (row3_set hz)⟩;simp only [Act.put,sT,List.set]
   refine StepsJ.cons rfl (fun L a W hJ hL ha K hK=>?_) ?_
   · obtain ⟨hB,hA,x27,x28,x29,x30,x31,x32,x20,x33,x34,x35,x4,x5,x6,rfl,hF⟩:=hJ
     have h15:=(ha { on:=15,ground:=Ground.data } (by first|exact Array.mem_of_getElem? (i:=0) rfl|exact Array.mem_of_getElem? (i:=1) rfl|exact Array.mem_of_getElem? (i:=2) rfl|exact Array.mem_of_getElem? (i:=3) rfl|exact Array.mem_of_getElem? (i:=4) rfl) rfl);have e35:=hF.f35 h15;subst e35;subst ha0;refine ⟨?_⟩;simp only [Act.put,sT,List.set];go_simp;refine hK.out _ _ ⟨addL_keep hB,hA,x27,x28,x29,x30,x31,x32,x20,x33,x34,(.int .i64 0),x4,x5,(.int .i64 0),?_,hF.up20 rfl⟩;simp only [Act.put,sT,List.set]
   exact StepsJ.nil
  case rest =>
   obtain ⟨b4,b5,gt,rfl,rfl,rfl,hcut,hlt,hr4,hr5⟩:=hcut;have HR:Hid (AwR w b1 g [(b4,#[.string (B 37),.string (B 7),.string (B 1)],59),(b5,#[.slice (some ⟨gt,0,none⟩) 4 4,.string ⟨#[]⟩,.int .i64 4],39)] wc):=Lib.hid ⟨hcut,fun r hr=>by simp only [List.mem_cons,List.not_mem_nil,or_false] at hr;exact hr.elim (fun h=>by subst h;exact hr4) (fun h=>by subst h;exact hr5)⟩;clear hcut hlt hr4 hr5 HW2;go_upto_region 4 with fail
   go_cut [7] (fun p wx=>∃ b7,p=.pointer (some ⟨b7,0,none⟩)∧AwR w b1 g [(b7,#[.string (B 37),.string (B 7),.string (B 1)],59),(b4,#[.string (B 37),.string (B 7),.string (B 1)],59),(b5,#[.slice (some ⟨gt,0,none⟩) 4 4,.string ⟨#[]⟩,.int .i64 4],39)] wx)
   case first =>
    go_wp2_with fail;refine (natOf 37 37 _ rfl (by decide)).mono ?_;rintro e x1 ⟨rfl,hb⟩;have HR1:=Lib.hid (HR.out.next hb);clear hb;go_wp2_with fail;refine (natOf 7 7 _ rfl (by decide)).mono ?_;rintro e x2 ⟨rfl,hb⟩;have HR2:=Lib.hid (HR1.out.next hb);clear hb;go_wp2_with fail;refine (natOf 1 1 _ rfl (by decide)).mono ?_;rintro e x3 ⟨rfl,hb⟩;have HR3:=Lib.hid (HR2.out.next hb);clear hb;go_wp2_with fail;go_meet;exact ⟨_,rfl,HR3.out.add _ _⟩
   case rest =>
    obtain ⟨b7,rfl,hcut⟩:=hcut;have HR7:=Lib.hid hcut;clear hcut HR;have HR:=HR7;clear HR7;go_upto_region 5 with fail
    go_cut [8] (fun p wx=>∃ b8,p=.pointer (some ⟨b8,0,none⟩)∧AwR w b1 g [(b8,#[.string (B 53),.string (B 7),.string (B 2)],59),(b7,#[.string (B 37),.string (B 7),.string (B 1)],59),(b4,#[.string (B 37),.string (B 7),.string (B 1)],59),(b5,#[.slice (some ⟨gt,0,none⟩) 4 4,.string ⟨#[]⟩,.int .i64 4],39)] wx)
    case first =>
     go_wp2_with fail;refine (natOf 53 53 _ rfl (by decide)).mono ?_;rintro e x1 ⟨rfl,hb⟩;have HR1:=Lib.hid (HR.out.next hb);clear hb;go_wp2_with fail;refine (natOf 7 7 _ rfl (by decide)).mono ?_;rintro e x2 ⟨rfl,hb⟩;have HR2:=Lib.hid (HR1.out.next hb);clear hb;go_wp2_with fail;refine (natOf 2 2 _ rfl (by decide)).mono ?_;rintro e x3 ⟨rfl,hb⟩;have HR3:=Lib.hid (HR2.out.next hb);clear hb;go_wp2_with fail;go_meet;exact ⟨_,rfl,HR3.out.add _ _⟩
    case rest =>
     obtain ⟨b8,rfl,hcut⟩:=hcut;have HR8:=Lib.hid hcut;clear hcut HR;obtain ⟨LL,hLL⟩:∃ LL:List (Nat × Array Value × TypeId),LL=[(b8,#[.string (B 53),.string (B 7),.string (B 2)],59),(b7,#[.string (B 37),.string (B 7),.string (B 1)],59),(b4,#[.string (B 37),.string (B 7),.string (B 1)],59),(b5,#[.slice (some ⟨gt,0,none⟩) 4 4,.string ⟨#[]⟩,.int .i64 4],39)]:=⟨_,rfl⟩;have M8:Hid ((b8,(#[.string (B 53),.string (B 7),.string (B 2)]:Array Value),59)∈LL):=Lib.hid (by rw [hLL];simp);have M7:Hid ((b7,(#[.string (B 37),.string (B 7),.string (B 1)]:Array Value),59)∈LL):=Lib.hid (by rw [hLL];simp);have M4:Hid ((b4,(#[.string (B 37),.string (B 7),.string (B 1)]:Array Value),59)∈LL):=Lib.hid (by rw [hLL];simp);have M5:Hid ((b5,(#[.slice (some ⟨gt,0,none⟩) 4 4,.string ⟨#[]⟩,.int .i64 4]:Array Value),39)∈LL):=Lib.hid (by rw [hLL];simp);rw [← hLL] at HR8;clear hLL;go_upto_region 6 with fail
     refine wp_region_held_drew (S:=(fun w'=>AwR w b1 g LL w')) (by kernel_rfl) ?_ (fun hHeld=>?_)
     · exact HR8.out.drew
     have HWd:=Lib.hid HR8.out.drew;refine tk (i:=0) (v:=?_) 44 rfl (.inl ⟨by rfl,?_⟩) ?_;rotate_left
     · intro w hSw;(try dsimp only at hSw);go_simp<;>with_reducible rfl
     try simp only [Act.put,sT,List.set]
     refine tk (i:=1) (v:=.bool true) 45 rfl (.inl ⟨by rfl,?_⟩) ?_
     · intro w' hS;go_simp<;>with_reducible rfl
     try simp only [Act.put,sT,List.set]
     refine tk (i:=2) (v:=?_) 46 rfl (.inl ⟨by rfl,?_⟩) ?_;rotate_left
     · intro w hSw;(try dsimp only at hSw);go_simp<;>with_reducible rfl
     try simp only [Act.put,sT,List.set]
     refine tk (i:=3) (v:=?_) 47 rfl (.inl ⟨by rfl,?_⟩) ?_;rotate_left
     · intro w hSw;(try dsimp only at hSw);go_simp<;>with_reducible rfl
     try simp only [Act.put,sT,List.set]
     refine wpAnyH_ready (rs:=[4]) (by kernel_rfl) (by simp) ?_;refine AllReadyH.cons rfl (fun K hK=>?_) AllReadyH.nil;go_simp
     ((with_reducible refine (natOf 64 64 _ rfl (by decide)).mono ?_);rintro e w4 ⟨rfl,hb⟩;have H4:=Lib.hid (HWd.out.next hb);clear hb)
     go_wp2_with fail;refine hK.out _ _ ?_ (fun hHeld=>?_)
     · exact H4.out
     clear hK K
     try simp only [Act.put,sT,List.set]
     refine tk (i:=5) (v:=.bool true) 49 rfl (.inl ⟨by rfl,?_⟩) ?_
     · intro w' hS;go_simp<;>with_reducible rfl
     try simp only [Act.put,sT,List.set]
     refine tk (i:=6) (v:=.bool true) 50 rfl (.inl ⟨by rfl,?_⟩) ?_
     · intro w' hS;go_simp<;>with_reducible rfl
     try simp only [Act.put,sT,List.set]
     refine tk (i:=7) (v:=?_) 51 rfl (.inl ⟨by rfl,?_⟩) ?_;rotate_left
     · intro w hSw;(try dsimp only at hSw);go_simp<;>with_reducible rfl
     try simp only [Act.put,sT,List.set]
     refine tk (i:=8) (v:=?_) 52 rfl (.inl ⟨by rfl,?_⟩) ?_;rotate_left
     · intro w hSw;(try dsimp only at hSw);go_simp<;>with_reducible rfl
     try simp only [Act.put,sT,List.set]
     refine tk (i:=9) (v:=.bool true) 53 rfl (.inl ⟨by rfl,?_⟩) ?_
     · intro w' hS;go_simp<;>with_reducible rfl
     try simp only [Act.put,sT,List.set]
     refine tk (i:=10) (v:=.bool true) 54 rfl (.inl ⟨by rfl,?_⟩) ?_
     · intro w' hS;go_simp<;>with_reducible rfl
     try simp only [Act.put,sT,List.set]
     refine tk (i:=11) (v:=?_) 55 rfl (.inl ⟨by rfl,?_⟩) ?_;rotate_left
     · intro w hSw;(try dsimp only at hSw);go_simp<;>with_reducible rfl
     try simp only [Act.put,sT,List.set]
     refine tk (i:=12) (v:=.agg #[.string (B 37),.string (B 7),.string (B 1)]) 56 rfl (.inl ⟨by rfl,?_⟩) ?_
     · intro w' hS;exact run_exec_load_row 59 (.tmp 4) rfl b4 rfl _ _ _ _ (hS.of M4.out) Tryz.underlying59 rfl (info3s'.trans rfl)
     try simp only [Act.put,sT,List.set]
     refine tk (i:=13) (v:=.agg #[.string (B 37),.string (B 7),.string (B 1)]) 57 rfl (.inl ⟨by rfl,?_⟩) ?_
     · intro w' hS;exact run_exec_load_row 59 (.tmp 7) rfl b7 rfl _ _ _ _ (hS.of M7.out) Tryz.underlying59 rfl (info3s'.trans rfl)
     try simp only [Act.put,sT,List.set]
     refine tk (i:=14) (v:=.bool true) 58 rfl (.inl ⟨by rfl,?_⟩) ?_
     · intro w' hS;go_simp<;>with_reducible rfl
     try simp only [Act.put,sT,List.set]
     refine tk (i:=15) (v:=.bool true) 59 rfl (.inl ⟨by rfl,?_⟩) ?_
     · intro w' hS;go_simp<;>with_reducible rfl
     try simp only [Act.put,sT,List.set]
     refine tk (i:=16) (v:=?_) 60 rfl (.inl ⟨by rfl,?_⟩) ?_;rotate_left
     · intro w hSw;(try dsimp only at hSw);go_simp<;>with_reducible rfl
     try simp only [Act.put,sT,List.set]
     refine tk (i:=17) (v:=.pointer (some ⟨b5,2,none⟩)) 61 rfl (.inl ⟨by rfl,?_⟩) ?_
     · intro w' hS;go_simp<;>with_reducible rfl
     try simp only [Act.put,sT,List.set]
     refine tk (i:=18) (v:=.int .i64 4) 62 rfl (.inl ⟨by rfl,?_⟩) ?_
     · intro w' hS;have hc:w'.cell? ⟨b5,2,none⟩=some (.int .i64 4):=cell_of_row w' b5 2 _ _ _ (hS.of M5.out);go_simp<;>with_reducible rfl
     try simp only [Act.put,sT,List.set]
     refine tk (i:=19) (v:=.bool true) 63 rfl (.inl ⟨by rfl,?_⟩) ?_
     · intro w' hS;go_simp<;>with_reducible rfl
     try simp only [Act.put,sT,List.set]
     refine tk (i:=20) (v:=.bool true) 64 rfl (.inl ⟨by rfl,?_⟩) ?_
     · intro w' hS;go_simp<;>with_reducible rfl
     try simp only [Act.put,sT,List.set]
     refine tk (i:=21) (v:=?_) 65 rfl (.inl ⟨by rfl,?_⟩) ?_;rotate_left
     · intro w hSw;(try dsimp only at hSw);go_simp<;>with_reducible rfl
     try simp only [Act.put,sT,List.set]
     refine tk (i:=22) (v:=.pointer (some ⟨b1,0,none⟩)) 66 rfl (.inl ⟨by rfl,?_⟩) ?_
     · intro w' hS;go_simp<;>with_reducible rfl
     try simp only [Act.put,sT,List.set]
     refine tk (i:=23) (v:=.agg #[.string (B 2),.string (B 2),.string (B 107),.string (B 53),.string (B 4),.string (B 16),.string (B 77),.string ⟨#[]⟩,.string (B 4),.string (B 9),.string (B 9),.string (B 6),.string (B 9),.string (B 3),.string (B 10),.string (B 2),.string (B 15)]) 67 rfl (.inl ⟨by rfl,?_⟩) ?_
     · intro w' hS;exact run_exec_load_sub 30 (.tmp 66) rfl b1 0 rfl 37 _ (setEx g) _ _ hS.aws.set ext_par Tryz.underlying30 rfl (info17'.trans rfl)
     try simp only [Act.put,sT,List.set]
     refine tk (i:=24) (v:=.pointer (some ⟨b1,17,none⟩)) 68 rfl (.inl ⟨by rfl,?_⟩) ?_
     · intro w' hS;go_simp<;>with_reducible rfl
     try simp only [Act.put,sT,List.set]
     refine tk (i:=25) (v:=.agg #[.string ⟨#[105,115,115,117,101,114]⟩,.string (B 77),.string ⟨#[]⟩,.string (B 15),.string (B 4),.slice (some ⟨g,0,none⟩) 3 3,.string (B 4),.string (B 16)]) 69 rfl (.inl ⟨by rfl,?_⟩) ?_
     · intro w' hS;exact run_exec_load_sub 33 (.tmp 68) rfl b1 17 rfl 37 _ (setEx g) _ _ hS.aws.set ext_key Tryz.underlying33 rfl (info8'.trans rfl)
     try simp only [Act.put,sT,List.set]
     refine tk (i:=28) (v:=.agg #[.string (B 53),.string (B 7),.string (B 2)]) 72 rfl (.inl ⟨by rfl,?_⟩) ?_
     · intro w' hS;exact run_exec_load_row 59 (.tmp 8) rfl b8 rfl _ _ _ _ (hS.of M8.out) Tryz.underlying59 rfl (info3s'.trans rfl)
     try simp only [Act.put,sT,List.set]
     refine wpAnyH_ready (rs:=[26]) (by kernel_rfl) (by simp) ?_;refine AllReadyH.cons rfl (fun K hK=>?_) AllReadyH.nil;go_simp;refine hK.out _ _ (H4.out.alloc _) (fun hHeld=>?_);clear hK K
     try simp only [Act.put,sT,List.set]
     refine wpAnyH_ready (rs:=[27]) (by kernel_rfl) (by simp) ?_;refine AllReadyH.cons rfl (fun K hK=>?_) AllReadyH.nil;go_simp
     ((refine (nats_at [1,3,5] _ 3 _ rfl (by decide) (by decide) ?_ ?_).mono ?_);(focus (exact urow3 _ _ 1 3 5));(focus (simp));rintro e wna ⟨⟨A7,c7,rfl,hs7⟩,hb⟩;have Hna:=Lib.hid ((H4.out.alloc _).next hb);have HSa:Hid (SLs wna wna.heap.size A7 (List.map B [1,3,5])):=Lib.hid hs7;clear hb hs7)
     go_wp2_with fail;refine hK.out _ _ ?_ (fun hHeld=>?_)
     · exact Hna.out
     clear hK K
     try simp only [Act.put,sT,List.set]
     refine wpAnyH_ready (rs:=[29]) (by kernel_rfl) (by simp) ?_;refine AllReadyH.cons rfl (fun K hK=>?_) AllReadyH.nil;go_simp
     ((refine (KV1.out _ g A7 c7 Hna.out.aws.bel Hna.out.aws.rows HSa.out).mono ?_);rintro e wva ⟨rfl,hb⟩;have Hva:=Lib.hid (Hna.out.next hb);clear hb)
     go_wp2_with fail;refine hK.out _ _ ?_ (fun hHeld=>?_)
     · exact Hva.out
     clear hK K
     try simp only [Act.put,sT,List.set]
     refine tk (i:=30) (v:=.bool true) 74 rfl (.inl ⟨by rfl,?_⟩) ?_
     · intro w' hS;go_simp<;>with_reducible rfl
     try simp only [Act.put,sT,List.set]
     refine tk (i:=31) (v:=.bool true) 75 rfl (.inl ⟨by rfl,?_⟩) ?_
     · intro w' hS;go_simp<;>with_reducible rfl
     try simp only [Act.put,sT,List.set]
     refine tk (i:=32) (v:=?_) 76 rfl (.inl ⟨by rfl,?_⟩) ?_;rotate_left
     · intro w hSw;(try dsimp only at hSw);go_simp<;>with_reducible rfl
     try simp only [Act.put,sT,List.set]
     refine tk (i:=33) (v:=.pointer (some ⟨b1,0,none⟩)) 77 rfl (.inl ⟨by rfl,?_⟩) ?_
     · intro w' hS;go_simp<;>with_reducible rfl
     try simp only [Act.put,sT,List.set]
     refine tk (i:=34) (v:=.agg #[.string (B 2),.string (B 2),.string (B 107),.string (B 53),.string (B 4),.string (B 16),.string (B 77),.string ⟨#[]⟩,.string (B 4),.string (B 9),.string (B 9),.string (B 6),.string (B 9),.string (B 3),.string (B 10),.string (B 2),.string (B 15)]) 78 rfl (.inl ⟨by rfl,?_⟩) ?_
     · intro w' hS;exact run_exec_load_sub 30 (.tmp 77) rfl b1 0 rfl 37 _ (setEx g) _ _ hS.aws.set ext_par Tryz.underlying30 rfl (info17'.trans rfl)
     try simp only [Act.put,sT,List.set]
     refine tk (i:=35) (v:=.pointer (some ⟨b1,17,none⟩)) 79 rfl (.inl ⟨by rfl,?_⟩) ?_
     · intro w' hS;go_simp<;>with_reducible rfl
     try simp only [Act.put,sT,List.set]
     refine tk (i:=36) (v:=.agg #[.string ⟨#[105,115,115,117,101,114]⟩,.string (B 77),.string ⟨#[]⟩,.string (B 15),.string (B 4),.slice (some ⟨g,0,none⟩) 3 3,.string (B 4),.string (B 16)]) 80 rfl (.inl ⟨by rfl,?_⟩) ?_
     · intro w' hS;exact run_exec_load_sub 33 (.tmp 79) rfl b1 17 rfl 37 _ (setEx g) _ _ hS.aws.set ext_key Tryz.underlying33 rfl (info8'.trans rfl)
     try simp only [Act.put,sT,List.set]
     refine tk (i:=39) (v:=.agg #[.string (B 53),.string (B 7),.string (B 2)]) 83 rfl (.inl ⟨by rfl,?_⟩) ?_
     · intro w' hS;exact run_exec_load_row 59 (.tmp 8) rfl b8 rfl _ _ _ _ (hS.of M8.out) Tryz.underlying59 rfl (info3s'.trans rfl)
     try simp only [Act.put,sT,List.set]
     refine wpAnyH_ready (rs:=[37]) (by kernel_rfl) (by simp) ?_;refine AllReadyH.cons rfl (fun K hK=>?_) AllReadyH.nil;go_simp;refine hK.out _ _ (Hva.out.alloc _) (fun hHeld=>?_);clear hK K
     try simp only [Act.put,sT,List.set]
     refine wpAnyH_ready (rs:=[38]) (by kernel_rfl) (by simp) ?_;refine AllReadyH.cons rfl (fun K hK=>?_) AllReadyH.nil;go_simp
     ((refine (nats_at [2,3,5] _ 3 _ rfl (by decide) (by decide) ?_ ?_).mono ?_);(focus (exact urow3 _ _ 2 3 5));(focus (simp));rintro e wnb ⟨⟨A9,c9,rfl,hs9⟩,hb⟩;have Hnb:=Lib.hid ((Hva.out.alloc _).next hb);have HSb:Hid (SLs wnb wnb.heap.size A9 (List.map B [2,3,5])):=Lib.hid hs9;clear hb hs9)
     go_wp2_with fail;refine hK.out _ _ ?_ (fun hHeld=>?_)
     · exact Hnb.out
     clear hK K
     try simp only [Act.put,sT,List.set]
     refine wpAnyH_ready (rs:=[40]) (by kernel_rfl) (by simp) ?_;refine AllReadyH.cons rfl (fun K hK=>?_) AllReadyH.nil;go_simp
     ((refine (KV2.out _ g A9 c9 Hnb.out.aws.bel Hnb.out.aws.rows HSb.out).mono ?_);rintro e wvb ⟨rfl,hb⟩;have Hvb:=Lib.hid (Hnb.out.next hb);clear hb)
     go_wp2_with fail;refine hK.out _ _ ?_ (fun hHeld=>?_)
     · exact Hvb.out
     clear hK K
     try simp only [Act.put,sT,List.set]
     refine tk (i:=41) (v:=.bool true) 85 rfl (.inl ⟨by rfl,?_⟩) ?_
     · intro w' hS;go_simp<;>with_reducible rfl
     try simp only [Act.put,sT,List.set]
     refine tk (i:=42) (v:=.bool true) 86 rfl (.inl ⟨by rfl,?_⟩) ?_
     · intro w' hS;go_simp<;>with_reducible rfl
     try simp only [Act.put,sT,List.set]
     refine tk (i:=43) (v:=?_) 0 rfl (.inl ⟨by rfl,?_⟩) ?_;rotate_left
     · intro w hSw;(try dsimp only at hSw);go_simp<;>with_reducible rfl
     try simp only [Act.put,sT,List.set]
     refine wpAnyH_done (by kernel_rfl) ?_ _;go_wp2_with fail;go_ret;exact ⟨rfl,Hvb.out.aws.bel⟩
end Go.Proofs.YtiacajjpkncomaaGreatDoor
