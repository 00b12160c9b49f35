/- The chapter's example: the setting. -/
import Derived.Test.YtiacajjpkncomaaGreatDoorExJA
import Derived.Test.YtiacajjpkncomaaGreatDoorExBW
import Derived.Test.YtiacajjpkncomaaGreatDoorExJ6
import Derived.Test.YtiacajjpkncomaaGreatDoorExKd
namespace Go.Proofs.YtiacajjpkncomaaGreatDoor
open Go.RowKit
set_option maxRecDepth 100000
set_option linter.unusedVariables false
set_option maxHeartbeats 8000000
structure Rws (w:World) (L:List (Nat × Array Value × TypeId)) (wx:World):Prop where
 bel:Below w.heap.size w wx
 rows:∀ r∈L,w.heap.size≤r.1∧wx.heap[r.1]?=some (.cells r.2.1 r.2.2 (0,0))
theorem Rws.next {w wx w':World} {L:List (Nat × Array Value × TypeId)} (h:Rws w L wx) (hb:Below wx.heap.size wx w'):Rws w L w' :=
 ⟨below2 h.bel hb,fun r hr=>⟨(h.rows r hr).1,(hb.block r.1 (Array.getElem?_eq_some_iff.1 (h.rows r hr).2).1).trans (h.rows r hr).2⟩⟩
theorem Rws.old {w wx:World} {L:List (Nat × Array Value × TypeId)} (h:Rws w L wx) (o:Obj):Rws w L (wx.alloc o):=h.next ((Below.refl _ _).alloc (Nat.le_refl _) o)
theorem Rws.alloc {w wx:World} {L:List (Nat × Array Value × TypeId)} (h:Rws w L wx) (cs:Array Value) (T:TypeId):Rws w ((wx.heap.size,cs,T)::L) (wx.alloc (.cells cs T)):=by
 refine ⟨(h.old _).bel,fun r hr=>?_⟩
 rcases List.mem_cons.1 hr with rfl|hr
 · exact ⟨h.bel.size,heap_alloc_new wx _⟩
 · exact (h.old _).rows r hr
theorem Rws.put {w wx w':World} {L:List (Nat × Array Value × TypeId)} {g:Nat} {cs cs':Array Value} {T:TypeId} (h:Rws w ((g,cs,T)::L) wx) (hp:Put1 wx w' g cs' T) (hL:∀ r∈L,r.1≠g):Rws w ((g,cs',T)::L) w':=by
 have h0:=h.rows _ (List.mem_cons_self ..);refine ⟨hp.bel _ _ h0.1 h.bel,fun r hr=>?_⟩
 rcases List.mem_cons.1 hr with rfl|hr
 · exact ⟨h0.1,hp.blk⟩
 · have:=h.rows r (List.mem_cons_of_mem _ hr)
   exact ⟨this.1,(hp.oth _ (hL r hr)).trans this.2⟩
theorem Rws.drew {w wx:World} {L:List (Nat × Array Value × TypeId)} (h:Rws w L wx):Rws w L wx.drew:=h.next ((Below.refl _ _).drew)
theorem Rws.tail {w wx:World} {L:List (Nat × Array Value × TypeId)} {r} (h:Rws w (r::L) wx):Rws w L wx:=⟨h.bel,fun x hx=>h.rows x (List.mem_cons_of_mem _ hx)⟩
theorem Rws.putOut {w wx w':World} {L:List (Nat × Array Value × TypeId)} {g:Nat} {cs':Array Value} {T:TypeId} (h:Rws w L wx) (hp:Put1 wx w' g cs' T) (hg:w.heap.size≤g) (hL:∀ r∈L,r.1≠g):Rws w L w' :=
 ⟨hp.bel _ _ hg h.bel,fun r hr=>⟨(h.rows r hr).1,(hp.oth _ (hL r hr)).trans (h.rows r hr).2⟩⟩
theorem Rws.lt {w wx:World} {L:List (Nat × Array Value × TypeId)} {r} (h:Rws w L wx) (hr:r∈L):r.1<wx.heap.size:=(Array.getElem?_eq_some_iff.1 (h.rows r hr).2).1
theorem srow_lit {w:World} {g:Nat} {T:TypeId} {x y z:ByteArray} (h:w.heap[g]?=some (.cells #[.string x,.string y,.string z] T (0,0))):SLs w w.heap.size (some ⟨g,0,none⟩) [x,y,z] :=
 SLs.of_row (fun j hj=>by
  rw [cell_of_row w g j _ _ _ h]
  rcases j with _|_|_|j
  · rfl
  · rfl
  · rfl
  · simp at hj;omega) (Array.getElem?_eq_some_iff.1 h).1
theorem Rws.sub {w wx:World} {L L':List (Nat × Array Value × TypeId)} (h:Rws w L wx) (hs:∀ r∈L',r∈L):Rws w L' wx:=⟨h.bel,fun r hr=>h.rows r (hs r hr)⟩
theorem Rws.head {w wx:World} {L:List (Nat × Array Value × TypeId)} {g:Nat} {cs:Array Value} {T:TypeId} (h:Rws w ((g,cs,T)::L) wx):wx.heap[g]?=some (.cells cs T (0,0)):=(h.rows _ (List.mem_cons_self ..)).2
theorem Rws.of {w wx:World} {L:List (Nat × Array Value × TypeId)} {g:Nat} {cs:Array Value} {T:TypeId} (h:Rws w L wx) (hm:(g,cs,T)∈L):wx.heap[g]?=some (.cells cs T (0,0)):=(h.rows _ hm).2
def z27:Array Value:=#[.string ⟨#[]⟩,.string ⟨#[]⟩,.string ⟨#[]⟩,.string ⟨#[]⟩,.string ⟨#[]⟩,.string ⟨#[]⟩,.string ⟨#[]⟩,.string ⟨#[]⟩,.string ⟨#[]⟩,.string ⟨#[]⟩,.string ⟨#[]⟩,.string ⟨#[]⟩,.string ⟨#[]⟩,.string ⟨#[]⟩,.string ⟨#[]⟩,.string ⟨#[]⟩,.string ⟨#[]⟩,.string ⟨#[]⟩,.string ⟨#[]⟩,.string ⟨#[]⟩,.string ⟨#[]⟩,.string ⟨#[]⟩,.slice none 0 0,.string ⟨#[]⟩,.string ⟨#[]⟩,.string ⟨#[]⟩,.string ⟨#[]⟩]
theorem natOf (z:Int) (n:Nat) (w:World) (hz:z=n) (hn:n<18446744073709551616):Calls Tryz.prog 17 #[.int .u64 z] w fun e w'=>e=.returned (.string (B n))∧Below w.heap.size w w':=by
 subst hz;exact natural_Of n w hn
set_option maxHeartbeats 8000000 in
theorem exec_of {a:Act} {o:Oper} {w:World} {x y:Operand} {v:Value} (ho:o.op=.call { callee:=.value x,args:=#[y],argTypes:=#[57] }) (hx:a.eval x=.func (.func 17) #[] #[]) (hy:a.eval y=v) :
  (execOp a.eval o).run Tryz.prog w=.ok (.enter 17 #[v]) w:=by
 generalize a.eval=e at hx hy;unfold execOp;simp [ho,hx,hy,go_sem]
theorem wpList_of {ops:Array Oper} {rest:List Oper} {o:Oper} {a:Act} {w:World} {Q:Exit→Act→World→Prop} (hgd:o.guard=none) (x y:Operand) (ho:o.op=.call { callee:=.value x,args:=#[y],argTypes:=#[57] }) (hx:a.eval x=.func (.func 17) #[] #[]) (z:Int) (hy:a.eval y=.int .u64 z)
  (hz:z=(z.toNat:Int)) (hn:z.toNat<18446744073709551616)
  (h:∀ w',Below w.heap.size w w'→wpList Tryz.prog ops Q rest (a.put o.dst (.string (B z.toNat))) w'):wpList Tryz.prog ops Q (o::rest) a w:=by
 refine wpList_plain hgd fun K hK=>?_
 unfold Oper.wp;rw [exec_of ho hx hy,Oper.upon_enter];refine (natOf z z.toNat w hz hn).mono fun e w'' hh=>?_
 obtain ⟨rfl,hb⟩:=hh;exact hK _ _ (h _ hb)
def setEx (g:Nat):Array Value:=#[.string (B 2),.string (B 2),.string (B 107),.string (B 53),.string (B 4),.string (B 16),.string (B 77),.string ⟨#[]⟩,.string (B 4),.string (B 9),.string (B 9),.string (B 6),.string (B 9),.string (B 3),.string (B 10),.string (B 2),.string (B 15),.string ⟨#[105,115,115,117,101,114]⟩,.string (B 77),.string ⟨#[]⟩,.string (B 15),.string (B 4),.slice (some ⟨g,0,none⟩) 3 3,.string (B 4),.string (B 16),.string (B 7),.string (B 11)]
theorem setEx_one (g:Nat):(setEx g).all (·.oneCell')=true:=by unfold setEx;simp [Value.oneCell']
theorem one4 (a b c d:ByteArray):∀ v∈[Value.string a,.string b,.string c,.string d],v.oneCell'=true:=by
 intro v hv;simp only [List.mem_cons,List.not_mem_nil,or_false] at hv
 rcases hv with h|h|h|h<;>subst h<;>rfl
theorem c4P':(Tryz.prog.info? 28).map (·.size)=some 4:=by kernel_rfl
theorem law30_example (w:World) :
  Calls Tryz.prog 13 #[] w fun e w'=>∃ g,e=.returned (.agg (setEx g))∧SLs w' w'.heap.size (some ⟨g,0,none⟩) [B 64,B 23,B 1]∧Below w.heap.size w w':=by
 have HX:Hid (Rws w [(w.heap.size,z27,37)] (w.alloc (.cells z27 37))):=Lib.hid ((show Rws w [] w from ⟨Below.refl _ _,fun r hr=>by cases hr⟩).alloc z27 _);obtain ⟨L0,hL0⟩:∃ L,L=[(w.heap.size,z27,37)]:=⟨_,rfl⟩;rw [← hL0] at HX;unfold z27 at HX;have HL0:=Lib.hid hL0;clear hL0
 go_enter Tryz.func13, Tryz.ntmps13
 go_wp2_with (with_reducible refine wpList_look ?_;refine wpList_of rfl _ _ rfl rfl _ rfl rfl (by decide) ?_;intro w1 hb1;have HY:=Lib.hid (HX.out.next hb1);clear hb1 HX;have HX:=HY;clear HY);refine (natOf 107 107 _ rfl (by decide)).mono ?_;rintro e w2 ⟨rfl,hb2⟩;obtain ⟨g2,hg2⟩:∃ g,w1.heap.size=g:=⟨_,rfl⟩;have HLT2:Hid (w.heap.size<g2):=Lib.hid (by rw [← hg2];exact HX.out.lt (r:=(w.heap.size,z27,_)) (by rw [HL0.out];exact List.mem_cons_self ..));have HNE:Hid (∀ r∈L0,r.1≠g2):=Lib.hid (fun r hr=>by have h1:=HLT2.out;rw [HL0.out] at hr;exact (List.mem_cons.1 hr).elim (fun e=>by subst e;exact Nat.ne_of_lt h1) (fun h=>by cases h));have HY:Hid (Rws w ((g2,#[.string (B 2),.string (B 2),.string ⟨#[]⟩,.string ⟨#[]⟩,.string ⟨#[]⟩,.string ⟨#[]⟩,.string ⟨#[]⟩,.string ⟨#[]⟩,.string ⟨#[]⟩,.string ⟨#[]⟩,.string (B 9),.string (B 6),.string (B 9),.string (B 3),.string (B 10),.string (B 2),.string (B 15)],30)::L0) w2):=Lib.hid (by rw [← hg2];exact (HX.out.alloc _ _).next hb2);rw [hg2];clear hb2 HX hg2;have HX:=HY;clear HY
 go_wp2_with (first|(with_reducible refine wpList_look ?_;refine wpList_store_sub rfl 28 _ _ rfl _ 2 rfl [.string (B 107),.string (B 53),.string (B 4),.string (B 16)] rfl 30 #[.string (B 2),.string (B 2),.string ⟨#[]⟩,.string ⟨#[]⟩,.string ⟨#[]⟩,.string ⟨#[]⟩,.string ⟨#[]⟩,.string ⟨#[]⟩,.string ⟨#[]⟩,.string ⟨#[]⟩,.string (B 9),.string (B 6),.string (B 9),.string (B 3),.string (B 10),.string (B 2),.string (B 15)] #[.string (B 2),.string (B 2),.string (B 107),.string (B 53),.string (B 4),.string (B 16),.string ⟨#[]⟩,.string ⟨#[]⟩,.string ⟨#[]⟩,.string ⟨#[]⟩,.string (B 9),.string (B 6),.string (B 9),.string (B 3),.string (B 10),.string (B 2),.string (B 15)] HX.out.head rfl (by simp) (c4P'.trans rfl) (one4 _ _ _ _) ?_;intro w1 hp1;have HY:=Lib.hid (HX.out.put hp1 HNE.out);clear hp1 HX;have HX:=HY;clear HY)|(with_reducible refine wpList_look ?_;refine wpList_store_sub rfl 28 _ _ rfl _ 6 rfl [.string (B 77),.string ⟨#[]⟩,.string (B 4),.string (B 9)] rfl 30 #[.string (B 2),.string (B 2),.string (B 107),.string (B 53),.string (B 4),.string (B 16),.string ⟨#[]⟩,.string ⟨#[]⟩,.string ⟨#[]⟩,.string ⟨#[]⟩,.string (B 9),.string (B 6),.string (B 9),.string (B 3),.string (B 10),.string (B 2),.string (B 15)] #[.string (B 2),.string (B 2),.string (B 107),.string (B 53),.string (B 4),.string (B 16),.string (B 77),.string ⟨#[]⟩,.string (B 4),.string (B 9),.string (B 9),.string (B 6),.string (B 9),.string (B 3),.string (B 10),.string (B 2),.string (B 15)] HX.out.head rfl (by simp) (c4P'.trans rfl) (one4 _ _ _ _) ?_;intro w1 hp1;have HY:=Lib.hid (HX.out.put hp1 HNE.out);clear hp1 HX;have HX:=HY;clear HY)|(with_reducible refine wpList_look ?_;refine wpList_of rfl _ _ rfl rfl _ rfl rfl (by decide) ?_;intro w1 hb1;have HY:=Lib.hid (HX.out.next hb1);clear hb1 HX;have HX:=HY;clear HY))
 refine (natOf 4 4 _ rfl (by decide)).mono ?_;rintro e w3 ⟨rfl,hb3⟩;obtain ⟨g3,hg3⟩:∃ g,w1.heap.size=g:=⟨_,rfl⟩;have HLT3:Hid (g2<g3):=Lib.hid (by rw [← hg3];exact HX.out.lt (List.mem_cons_self ..));have HY:Hid (Rws w ((g3,#[.string (B 64),.string (B 23),.string (B 1)],22)::(g2,#[.string (B 2),.string (B 2),.string (B 107),.string (B 53),.string (B 4),.string (B 16),.string (B 77),.string ⟨#[]⟩,.string (B 4),.string (B 9),.string (B 9),.string (B 6),.string (B 9),.string (B 3),.string (B 10),.string (B 2),.string (B 15)],30)::L0) w3):=Lib.hid (by rw [← hg3];exact (HX.out.alloc _ _).next hb3);rw [hg3];clear hb3 HX hg3;have HX:=HY;clear HY;go_wp2_with (with_reducible refine wpList_look ?_;refine wpList_of rfl _ _ rfl rfl _ rfl rfl (by decide) ?_;intro w1 hb1;have HY:=Lib.hid (HX.out.next hb1);clear hb1 HX;have HX:=HY;clear HY);obtain ⟨g4,hg4⟩:∃ g,w1.heap.size=g:=⟨_,rfl⟩;have HLT4:Hid (g3<g4):=Lib.hid (by rw [← hg4];exact HX.out.lt (List.mem_cons_self ..))
 have HY:Hid (Rws w ((g4,#[.string ⟨#[105,115,115,117,101,114]⟩,.string (B 77),.string ⟨#[]⟩,.string (B 15),.string (B 4),.slice (some ⟨g3,0,none⟩) 3 3,.string (B 4),.string (B 16)],33)::(g3,#[.string (B 64),.string (B 23),.string (B 1)],22)::(g2,#[.string (B 2),.string (B 2),.string (B 107),.string (B 53),.string (B 4),.string (B 16),.string (B 77),.string ⟨#[]⟩,.string (B 4),.string (B 9),.string (B 9),.string (B 6),.string (B 9),.string (B 3),.string (B 10),.string (B 2),.string (B 15)],30)::L0) (w1.alloc (.cells #[.string ⟨#[105,115,115,117,101,114]⟩,.string (B 77),.string ⟨#[]⟩,.string (B 15),.string (B 4),.slice (some ⟨g3,0,none⟩) 3 3,.string (B 4),.string (B 16)] 33))):=Lib.hid (by have h:=HX.out.alloc #[.string ⟨#[105,115,115,117,101,114]⟩,.string (B 77),.string ⟨#[]⟩,.string (B 15),.string (B 4),.slice (some ⟨g3,0,none⟩) 3 3,.string (B 4),.string (B 16)] 33;rw [hg4] at h;exact h)
 obtain ⟨LL,hLL⟩:∃ LL:List (Nat × Array Value × TypeId),LL=[(g4,#[.string ⟨#[105,115,115,117,101,114]⟩,.string (B 77),.string ⟨#[]⟩,.string (B 15),.string (B 4),.slice (some ⟨g3,0,none⟩) 3 3,.string (B 4),.string (B 16)],33),(g3,#[.string (B 64),.string (B 23),.string (B 1)],22),(g2,#[.string (B 2),.string (B 2),.string (B 107),.string (B 53),.string (B 4),.string (B 16),.string (B 77),.string ⟨#[]⟩,.string (B 4),.string (B 9),.string (B 9),.string (B 6),.string (B 9),.string (B 3),.string (B 10),.string (B 2),.string (B 15)],30)]:=⟨_,rfl⟩;obtain ⟨LF,hLF⟩:∃ LF,LF=(g4,#[.string ⟨#[105,115,115,117,101,114]⟩,.string (B 77),.string ⟨#[]⟩,.string (B 15),.string (B 4),.slice (some ⟨g3,0,none⟩) 3 3,.string (B 4),.string (B 16)],33)::(g3,#[.string (B 64),.string (B 23),.string (B 1)],22)::(g2,#[.string (B 2),.string (B 2),.string (B 107),.string (B 53),.string (B 4),.string (B 16),.string (B 77),.string ⟨#[]⟩,.string (B 4),.string (B 9),.string (B 9),.string (B 6),.string (B 9),.string (B 3),.string (B 10),.string (B 2),.string (B 15)],30)::L0:=⟨_,rfl⟩;have HSB:Hid (∀ r∈LL,r∈LF):=Lib.hid (by rw [hLL,hLF];intro r hr;simp only [List.mem_cons,List.not_mem_nil,or_false] at hr ⊢;rcases hr with h|h|h<;>simp [h])
 have HM2:Hid ((g2,(#[.string (B 2),.string (B 2),.string (B 107),.string (B 53),.string (B 4),.string (B 16),.string (B 77),.string ⟨#[]⟩,.string (B 4),.string (B 9),.string (B 9),.string (B 6),.string (B 9),.string (B 3),.string (B 10),.string (B 2),.string (B 15)]:Array Value),30)∈LL):=Lib.hid (by rw [hLL];simp);have HM4:Hid ((g4,(#[.string ⟨#[105,115,115,117,101,114]⟩,.string (B 77),.string ⟨#[]⟩,.string (B 15),.string (B 4),.slice (some ⟨g3,0,none⟩) 3 3,.string (B 4),.string (B 16)]:Array Value),33)∈LL):=Lib.hid (by rw [hLL];simp);have HM3:Hid ((g3,(#[.string (B 64),.string (B 23),.string (B 1)]:Array Value),22)∈LL):=Lib.hid (by rw [hLL];simp);have HM0:Hid ((w.heap.size,z27,37)∈LF):=Lib.hid (by rw [hLF,HL0.out];simp);have HNL:Hid (∀ r∈LL,r.1≠w.heap.size):=Lib.hid (by have a2:=HLT2.out;have a3:=HLT3.out;have a4:=HLT4.out;rw [hLL];intro r hr;simp only [List.mem_cons,List.not_mem_nil,or_false] at hr;rcases hr with h|h|h<;>subst h<;>(show _≠_)<;>omega);rw [← hLF] at HY;rw [hg4];clear hLF hLL HX hg4;go_upto_region 6 with fail
 refine wp_region_held_drew (S:=(fun w'=>Rws w LL w')) (by kernel_rfl) ?_ (fun hHeld=>?_)
 · exact (HY.out.drew).sub HSB.out
 have HYd:=Lib.hid HY.out.drew;clear HY;refine tk (i:=0) (v:=.agg #[.string (B 2),.string (B 2),.string (B 107),.string (B 53),.string (B 4),.string (B 16),.string (B 77),.string ⟨#[]⟩,.string (B 4),.string (B 9),.string (B 9),.string (B 6),.string (B 9),.string (B 3),.string (B 10),.string (B 2),.string (B 15)]) 63 rfl (.inl ⟨by rfl,?_⟩) ?_
 · intro w' hS;exact run_exec_load_row 30 (.tmp 2) rfl g2 rfl _ _ _ _ (hS.of HM2.out) Tryz.underlying30 rfl (info17'.trans rfl)
 try simp only [Act.put,sT,List.set]
 refine tk (i:=1) (v:=.agg #[.string ⟨#[105,115,115,117,101,114]⟩,.string (B 77),.string ⟨#[]⟩,.string (B 15),.string (B 4),.slice (some ⟨g3,0,none⟩) 3 3,.string (B 4),.string (B 16)]) 64 rfl (.inl ⟨by rfl,?_⟩) ?_
 · intro w' hS;exact run_exec_load_row 33 (.tmp 3) rfl g4 rfl _ _ _ _ (hS.of HM4.out) Tryz.underlying33 rfl (info8'.trans rfl)
 try simp only [Act.put,sT,List.set]
 refine tk (i:=2) (v:=?_) 65 rfl (.inl ⟨by rfl,?_⟩) ?_;rotate_left
 · intro w hSw;(try dsimp only at hSw);go_simp<;>with_reducible rfl
 try simp only [Act.put,sT,List.set]
 refine tk (i:=4) (v:=?_) 67 rfl (.inl ⟨by rfl,?_⟩) ?_;rotate_left
 · intro w hSw;(try dsimp only at hSw);go_simp<;>with_reducible rfl
 try simp only [Act.put,sT,List.set]
 refine wpAnyH_ready (rs:=[3]) (by kernel_rfl) (by simp) ?_;refine AllReadyH.cons rfl (fun K hK=>?_) AllReadyH.nil;go_simp
 ((with_reducible refine (natOf 7 7 _ rfl (by decide)).mono ?_);rintro e w5 ⟨rfl,hb⟩;have HY5:=Lib.hid (HYd.out.next hb);clear hb)
 go_wp2_with fail;refine hK.out _ _ ?_ (fun hHeld=>?_)
 · exact HY5.out.sub HSB.out
 clear hK K
 try simp only [Act.put,sT,List.set]
 refine wpAnyH_ready (rs:=[5]) (by kernel_rfl) (by simp) ?_;refine AllReadyH.cons rfl (fun K hK=>?_) AllReadyH.nil;go_simp
 ((with_reducible refine (natOf 11 11 _ rfl (by decide)).mono ?_);rintro e w6 ⟨rfl,hb⟩;have HY6:=Lib.hid (HY5.out.next hb);clear hb)
 go_wp2_with fail;refine hK.out _ _ ?_ (fun hHeld=>?_)
 · exact HY6.out.sub HSB.out
 clear hK K
 try simp only [Act.put,sT,List.set]
 refine tk (i:=6) (v:=.agg #[.string (B 7),.string (B 11)]) 69 rfl (.inl ⟨by rfl,?_⟩) ?_
 · intro w' hS;go_simp<;>with_reducible rfl
 try simp only [Act.put,sT,List.set]
 refine tk (i:=7) (v:=.agg (setEx g3)) 70 rfl (.inl ⟨by rfl,?_⟩) ?_
 · intro w' hS;go_simp<;>rfl
 try simp only [Act.put,sT,List.set]
 refine wpAnyH_ready (rs:=[8]) (by kernel_rfl) (by simp) ?_;refine AllReadyH.cons rfl (fun K hK=>?_) AllReadyH.nil;rw [if_pos (by rfl)];have HP:=Lib.hid (put1_setCells w.heap.size 37 (setEx g3).toList 0 w6 z27 (HY6.out.of HM0.out));have HS8:=Lib.hid ((HY6.out.sub HSB.out).putOut HP.out (Nat.le_refl _) HNL.out);refine wp_store_mid 37 _ _ rfl w.heap.size 0 (setEx g3) rfl rfl (there_row (HY6.out.of HM0.out) (show 0+27≤27 from Nat.le_refl _)) (c27.trans rfl) (setEx_one g3) ?_;refine hK.out _ _ HS8.out (fun hHeld=>?_);clear hK K
 try simp only [Act.put]
 refine wpAnyH_done (by kernel_rfl) ?_ _;go_wp2_with fail;exact bodyPost_ret (v:=.agg (setEx g3)) (results_cell_row Tryz.results13 _ _ w.heap.size 37 (setEx g3) (0,0) _ rfl HP.out.blk Tryz.underlying37 rfl (c27.trans rfl)) rfl ⟨g3,rfl,srow_lit (HS8.out.of HM3.out),HS8.out.bel⟩
end Go.Proofs.YtiacajjpkncomaaGreatDoor
