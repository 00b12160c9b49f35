/- Plain law: below 2^24 a number that passes the test of primality is prime. A finite check over the least divisors, by the kernel. No program in sight. The walks of package params: the tests of a search. The walks of package params: the tape is well-formed. Plain law: what a search over a tape finds. Plain laws: what the searches of params find; the coins that were used, as a list, give the same. No program in sight. The walks of package params: the search. The walks of package params: the search, with SafePrime's test. Written from Z3 by replacing the closure's name. The walks of package params: Prime. The walks of package params: SafePrime. The walks of package coins: draw once more, and that the next tape lies in memory of the call's own. The walks of package coins: Many, where every draw goes through. Draws, searches and primes of the program once more: the next tape's row is fresh. A draw where the tape has no seed: coins.draw, coins.Below (no hash is reached). -/
import Derived.Test.YtiacajjpkncomaaGreatDoorExBA
import Derived.Test.YtiacajjpkncomaaGreatDoorExJ1
import Derived.Test.YtiacajjpkncomaaGreatDoorExBP
import Derived.Deep.AppendLies
import Derived.Maps.AppendAt
namespace Go.Proofs.YtiacajjpkncomaaGreatDoor
open Go
set_option linter.unusedVariables false
set_option maxRecDepth 100000
end Go.Proofs.YtiacajjpkncomaaGreatDoor
namespace Go.Proofs.YtiacajjpkncomaaGreatDoor
open Go.RowKit
set_option maxRecDepth 100000
set_option linter.unusedVariables false
set_option maxHeartbeats 4000000
theorem prime_Is_B (n:Nat) (w:World) (hn:n<18446744073709551616) (hT:Tab w) :
  Calls Tryz.prog 24 #[.string (B n)] w fun e w'=>e=.returned (.tuple #[.bool (isS n),.int .i64 0])∧Below w.heap.size w w':=by
 have hsm:smallS (B n)=(n,0):=by unfold smallS;rw [valid_B (Nat.lt_trans hn (by decide)),if_pos rfl,if_pos (B_size_le'.2 (Nat.lt_of_lt_of_le hn (by decide))),num_B]
 have KS:=Lib.hid (fun w=>prime_small (B n) w);rw [hsm] at KS;have KI:=Lib.hid (fun w (hT:Tab w)=>prime_is n w hn hT);have HT:=Lib.hid hT;clear hsm hT
 go_enter Tryz.func24, Tryz.ntmps24
 go_wp2_with (first
  | (go_at_call 58;(with_reducible refine (KS.out _).mono ?_);rintro e w1 ⟨rfl,rfl⟩)
  | (go_at_call 59;(with_reducible refine (KI.out _ HT.out).mono ?_);rintro e w2 ⟨rfl,hb2⟩;have HB2:=Lib.hid hb2;clear hb2))
 go_ret2;exact ⟨rfl,HB2.out⟩
end Go.Proofs.YtiacajjpkncomaaGreatDoor
namespace Go.Proofs.YtiacajjpkncomaaGreatDoor
open Go.RowKit
set_option maxRecDepth 100000
set_option linter.unusedVariables false
set_option maxHeartbeats 4000000
section
variable {w wx wy:World} {A:Option Addr} {n c:Nat} {seed:ByteArray} {z:Int}
end
theorem cell_in {W:World} {a:Addr} {v:Value} (h:W.cell? a=some v):a.block<W.heap.size:=by
 rcases Nat.lt_or_ge a.block W.heap.size with h2|h2
 · exact h2
 · simp [World.cell?,Array.getElem?_eq_none h2] at h
end Go.Proofs.YtiacajjpkncomaaGreatDoor
namespace Go.Proofs.YtiacajjpkncomaaGreatDoor
open Go.RowKit
set_option maxRecDepth 100000
set_option linter.unusedVariables false
set_option maxHeartbeats 4000000
theorem drawS_lt {vals:List ByteArray} {seed:ByteArray} {z:Int} {m:Nat} (hm:1≤m) (h:(drawS vals seed z m).1=0):(drawS vals seed z m).2<m:=by
 unfold drawS at h ⊢
 split at h
 · rename_i hz
   rw [if_pos hz]
   split at h
   · cases h
   · rename_i hv
     rw [if_neg hv];show num _<m;omega
 · rename_i hz
   rw [if_neg hz]
   split at h
   · cases h
   · rename_i hq
     rw [if_neg hq]
     cases ht:tryF seed z m with
     | none=>rw [ht] at h;cases h
     | some x =>
       show x<m;unfold tryF at ht;obtain ⟨l1,a,l2,_,hx,_⟩:=List.findSome?_eq_some_iff.1 ht
       split at hx
       · rename_i hlt
         cases hx
         exact hlt
       · cases hx
theorem belowS_lt {vals:List ByteArray} {seed:ByteArray} {z:Int} {m:Nat} (hm:1≤m) (h:(belowS vals seed z m).1=0):(belowS vals seed z m).2<m:=by
 unfold belowS at h ⊢
 split at h
 · rename_i hg
   rw [if_pos hg];exact drawS_lt hm h
 · cases h
def searchPost (d:Int × Nat × Int) (n:Nat) (seed:ByteArray) (vals:List ByteArray) (e:Ending) (w':World):Prop :=
 (d.1=0∧∃ g,e=.returned (.tuple #[.string (B d.2.1),.agg #[.slice (some ⟨g,0,none⟩) n n,.string seed,.int .i64 d.2.2],.int .i64 0])∧SLs w' w'.heap.size (some ⟨g,0,none⟩) vals) ∨
 (d.1≠0∧e=.returned (.tuple #[.string ⟨#[]⟩,.agg #[.slice none 0 0,.string ⟨#[]⟩,.int .i64 0],.int .i64 d.1]))
end Go.Proofs.YtiacajjpkncomaaGreatDoor
namespace Go.Proofs.YtiacajjpkncomaaGreatDoor
open Go.RowKit
set_option maxRecDepth 100000
set_option linter.unusedVariables false
set_option maxHeartbeats 1000000
end Go.Proofs.YtiacajjpkncomaaGreatDoor
namespace Go.Proofs.YtiacajjpkncomaaGreatDoor
open Go.RowKit
set_option maxRecDepth 100000
set_option linter.unusedVariables false
set_option maxHeartbeats 4000000
theorem AtB.put {w wx:World} {A A':Option Addr} {n c n' c':Nat} {seed seed':ByteArray} {z z':Int} (h:AtB w wx A n c seed z) :
  AtB w (((wx.setCell ⟨w.heap.size,0,none⟩ (.slice A' n' c')).setCell ⟨w.heap.size,1,none⟩ (.string seed')).setCell ⟨w.heap.size,2,none⟩ (.int .i64 z')) A' n' c' seed' z':=by
 refine ⟨?_,?_,?_,?_,?_⟩
 · refine (World.cell?_setCell_other _ _ _ _ (by simp)).trans ((World.cell?_setCell_other _ _ _ _ (by simp)).trans ?_)
   exact World.cell?_setCell_same _ _ _ h.t0
 · refine (World.cell?_setCell_other _ _ _ _ (by simp)).trans ?_
   exact World.cell?_setCell_same _ _ _ ((World.cell?_setCell_other _ _ _ _ (by simp)).trans h.t1)
 · exact World.cell?_setCell_same _ _ _ ((World.cell?_setCell_other _ _ _ _ (by simp)).trans ((World.cell?_setCell_other _ _ _ _ (by simp)).trans h.t2))
 · have hp:∀ k,w.heap.size+1≠(⟨w.heap.size,k,none⟩:Addr).block:=fun k=>Nat.succ_ne_self _
   exact (Below.heap_setCell _ _ _ _ (hp 2)).trans ((Below.heap_setCell _ _ _ _ (hp 1)).trans ((Below.heap_setCell _ _ _ _ (hp 0)).trans h.r))
 · exact ((h.bel.setCell (p:=⟨w.heap.size,0,none⟩) (Nat.le_refl _) _).setCell (p:=⟨w.heap.size,1,none⟩) (Nat.le_refl _) _).setCell (p:=⟨w.heap.size,2,none⟩) (Nat.le_refl _) _
theorem SLs.put {w:World} {g b k:Nat} {vals:List ByteArray} {x y t u:Value} (hs:SLs w k (some ⟨g,0,none⟩) vals) (hb:w.cell? ⟨b,0,none⟩=some u) (hu:∀ s,u≠.string s) :
  SLs (((w.setCell ⟨b,0,none⟩ x).setCell ⟨b,1,none⟩ y).setCell ⟨b,2,none⟩ t) k (some ⟨g,0,none⟩) vals:=by
 intro hne;obtain ⟨ad,e,hb',hc⟩:=hs hne;injection e with e
 subst e;have h0:=hc 0 (List.length_pos_iff.mpr hne);rw [addr_add] at h0
 have hg:b≠g:=by
  intro e;rw [e] at hb;rw [show 0+0=0 from rfl,hb] at h0;injection h0 with h0
  exact hu _ h0
 refine ⟨_,rfl,hb',fun j hj=>?_⟩;have hj':=hc j hj;rw [addr_add] at hj' ⊢;exact hop3 (by show b≠g;exact hg) hj'
theorem SLs.last {w2 w4:World} {o:Obj} {g b:Nat} {vals:List ByteArray} {x y t:Value} {u1:Option Addr} {u2 u3:Nat} (hs:SLs w2 w2.heap.size (some ⟨g,0,none⟩) vals) (hb:(w2.alloc o).cell? ⟨b,0,none⟩=some (.slice u1 u2 u3))
  (h4:Below ((((w2.alloc o).setCell ⟨b,0,none⟩ x).setCell ⟨b,1,none⟩ y).setCell ⟨b,2,none⟩ t).heap.size ((((w2.alloc o).setCell ⟨b,0,none⟩ x).setCell ⟨b,1,none⟩ y).setCell ⟨b,2,none⟩ t) w4):SLs w4 w4.heap.size (some ⟨g,0,none⟩) vals:=by
 have hs3:SLs (w2.alloc o) (w2.alloc o).heap.size (some ⟨g,0,none⟩) vals:=hs.to ((Below.refl _ _).alloc (Nat.le_refl _) _);have hs4:=SLs.put (x:=x) (y:=y) (t:=t) hs3 hb (fun s h=>by cases h);have e:((((w2.alloc o).setCell ⟨b,0,none⟩ x).setCell ⟨b,1,none⟩ y).setCell ⟨b,2,none⟩ t).heap.size=(w2.alloc o).heap.size:=by simp
 rw [← e] at hs4;exact hs4.to h4
theorem step64 {i:Nat} (h:i<65536):Value.int .i64 (wrap64 ((i:Int)+1))=.int .i64 ((i+1:Nat):Int):=by
 rw [IntWalk.wrap64_in _ (by omega)];rfl
theorem wrapi {i:Nat} (h:i<65536):wrap64 ((i:Int)+1)=(i:Int)+1:=IntWalk.wrap64_in _ (by omega)
theorem measT {T i:Nat} (hT:i<T) (h:i<65536):T-(intOf (.int .i64 (wrap64 ((i:Int)+1)))).toNat<T-(intOf (.int .i64 (i:Int))).toNat:=by
 rw [wrapi h];simp only [intOf];omega
end Go.Proofs.YtiacajjpkncomaaGreatDoor
namespace Go.Proofs.YtiacajjpkncomaaGreatDoor
open Go.RowKit
set_option maxRecDepth 100000
set_option linter.unusedVariables false
set_option maxHeartbeats 4000000
end Go.Proofs.YtiacajjpkncomaaGreatDoor
namespace Go.Proofs.YtiacajjpkncomaaGreatDoor
open Go.RowKit
set_option maxRecDepth 100000
set_option linter.unusedVariables false
set_option maxHeartbeats 4000000
def Tail (d:Int × Nat × Int) (n:Nat) (seed:ByteArray) (vals:List ByteArray) (s:ByteArray) (A:Option Addr) (n' c':Nat) (sd:ByteArray) (zz:Int) (w':World):Prop :=
 (d.1=0∧s=B d.2.1∧n'=n∧c'=n∧sd=seed∧zz=d.2.2∧(∃ g,A=some ⟨g,0,none⟩)∧SLs w' w'.heap.size A vals)∨(d.1≠0∧s=⟨#[]⟩∧A=none∧n'=0∧c'=0∧sd=⟨#[]⟩∧zz=0)
theorem searchPost.tail {d:Int × Nat × Int} {n:Nat} {seed:ByteArray} {vals:List ByteArray} {e:Ending} {w':World} (h:searchPost d n seed vals e w') :
  ∃ s A n' c' sd zz,e=.returned (.tuple #[.string s,.agg #[.slice A n' c',.string sd,.int .i64 zz],.int .i64 d.1])∧Tail d n seed vals s A n' c' sd zz w':=by
 rcases h with ⟨h0,g,rfl,hs⟩|⟨h0,rfl⟩
 · exact ⟨_,_,_,_,_,_,by rw [h0],.inl ⟨h0,rfl,rfl,rfl,rfl,rfl,⟨g,rfl⟩,hs⟩⟩
 · exact ⟨_,_,_,_,_,_,rfl,.inr ⟨h0,rfl,rfl,rfl,rfl,rfl,rfl⟩⟩
theorem Tail.post {d:Int × Nat × Int} {n n' c':Nat} {seed s sd:ByteArray} {A:Option Addr} {zz:Int} {vals:List ByteArray} {w':World} (h:Tail d n seed vals s A n' c' sd zz w') :
  searchPost d n seed vals (.returned (.tuple #[.string s,.agg #[.slice A n' c',.string sd,.int .i64 zz],.int .i64 d.1])) w':=by
 rcases h with ⟨h0,rfl,rfl,rfl,rfl,rfl,⟨g,rfl⟩,hs⟩|⟨h0,rfl,rfl,rfl,rfl,rfl,rfl⟩
 · exact .inl ⟨h0,g,by rw [h0],hs⟩
 · exact .inr ⟨h0,rfl⟩
theorem Tail.put {d:Int × Nat × Int} {n n' c' b:Nat} {seed s sd:ByteArray} {A:Option Addr} {zz:Int} {vals:List ByteArray} {w':World} {x y t:Value} {u1:Option Addr} {u2 u3:Nat} (h:Tail d n seed vals s A n' c' sd zz w')
  (hb:w'.cell? ⟨b,0,none⟩=some (.slice u1 u2 u3)):Tail d n seed vals s A n' c' sd zz (((w'.setCell ⟨b,0,none⟩ x).setCell ⟨b,1,none⟩ y).setCell ⟨b,2,none⟩ t):=by
 rcases h with ⟨h0,rfl,rfl,rfl,rfl,rfl,⟨g,rfl⟩,hs⟩|h
 · have hs4:=SLs.put (x:=x) (y:=y) (t:=t) hs hb (fun s h=>by cases h)
   have e:(((w'.setCell ⟨b,0,none⟩ x).setCell ⟨b,1,none⟩ y).setCell ⟨b,2,none⟩ t).heap.size=w'.heap.size:=by simp
   rw [← e] at hs4;exact .inl ⟨h0,rfl,rfl,rfl,rfl,rfl,⟨g,rfl⟩,hs4⟩
 · exact .inr h
section
variable {w wx wy:World} {bits:Int} {A:Option Addr} {n c:Nat} {seed:ByteArray} {z:Int} {x y t:Value}
end
end Go.Proofs.YtiacajjpkncomaaGreatDoor
namespace Go.Proofs.YtiacajjpkncomaaGreatDoor
open Go.RowKit
set_option maxRecDepth 100000
set_option linter.unusedVariables false
set_option maxHeartbeats 4000000
end Go.Proofs.YtiacajjpkncomaaGreatDoor
namespace Go.Proofs.YtiacajjpkncomaaGreatDoor
open Go.RowKit
set_option maxRecDepth 100000
set_option linter.unusedVariables false
set_option maxHeartbeats 4000000
theorem draw_valueF (vals:List ByteArray) (A:Option Addr) (n c:Nat) (seed:ByteArray) (k v m:Nat) (w:World) (hn:vals.length=n) (hm:n≤1000) (h:SLs w w.heap.size A vals) (hk:k<n)
  (hv:vals.getD k ByteArray.empty=B v) (hv1:v<lim) (hvm:v<m) (hm1:m<18446744073709551616) (hs:seed.size≤100000) :
  Calls Tryz.prog 55 #[.agg #[.slice A n c,.string seed,.int .i64 k],.string (B m)] w fun e w'=>(∃ g,e=.returned (.tuple #[.string (B v),.agg #[.slice (some ⟨g,0,none⟩) n n,.string seed,.int .i64 ((k:Int)+1)],.int .i64 0])∧SLs w' w'.heap.size (some ⟨g,0,none⟩) vals∧w.heap.size≤g)∧Below w.heap.size w w':=by
 obtain ⟨ad,rfl,hadb,hall⟩:=h (by intro e;rw [e] at hn;simp at hn;omega);have hc0:=hall k (by omega);rw [hv] at hc0
 have hc1:((w.alloc (.cells #[.slice (some ad) n c,.string seed,.int .i64 k] 39)).alloc (.cells #[.slice none 0 0,.string ⟨#[]⟩,.int .i64 0] 39)).cell? (ad.add k)=some (.string (B v)):=by
  rw [World.cell?_alloc_lt _ _ _ (by rw [block_of_add];simp;omega),World.cell?_alloc_lt _ _ _ (by rw [block_of_add];exact hadb)];exact hc0
 have hzw:IntKind.i64.wrap ((k:Int)+1)=(k:Int)+1:=by rw [IntKind.wrap_i64];omega
 have i0:(0:Int)≤(k:Int):=by omega
 have i1:(k:Int)<(n:Int):=by omega
 have i2:¬ ((k:Int)=2147483647):=by omega
 have i3:((k:Int)==2147483647)=false:=by rw [beq_eq_false_iff_ne];exact i2
 have hmk:=make_strs n (by omega);have KC:=Lib.hid (fun w=>natural_Cmp (B v) (B m) w);rw [natCmp_BB hv1 (Nat.lt_trans hm1 (by decide)),show cmpN v m=-1 from by unfold cmpN;rw [if_pos hvm]] at KC;have HV1:=Lib.hid hv1;have HALL:=Lib.hid hall;have HN:=Lib.hid hn;have HV:=Lib.hid hv;clear hall hn hc0 hv
 go_enter Tryz.func55, Tryz.ntmps55
 go_wp2_with (first|(go_at_call 43;(with_reducible refine (KC.out _).mono ?_);rintro e w1 ⟨rfl,rfl⟩));have d0:((w.alloc (.cells #[.slice (some ad) n c,.string seed,.int .i64 k] 39)).alloc (.cells #[.slice none 0 0,.string ⟨#[]⟩,.int .i64 0] 39)).cell? ⟨w.heap.size,0,none⟩=some (.slice (some ad) n c):=by simp [go_sem]
 have d1:((w.alloc (.cells #[.slice (some ad) n c,.string seed,.int .i64 k] 39)).alloc (.cells #[.slice none 0 0,.string ⟨#[]⟩,.int .i64 0] 39)).cell? ⟨w.heap.size,1,none⟩=some (.string seed):=by simp [go_sem]
 have d2:((w.alloc (.cells #[.slice (some ad) n c,.string seed,.int .i64 k] 39)).alloc (.cells #[.slice none 0 0,.string ⟨#[]⟩,.int .i64 0] 39)).cell? ⟨w.heap.size,2,none⟩=some (.int .i64 k):=by simp [go_sem]
 go_region_held3 (fun w'=>w'.cell? ⟨w.heap.size,0,none⟩=some (.slice (some ad) n c)∧w'.cell? ⟨w.heap.size,1,none⟩=some (.string seed)∧w'.cell? ⟨w.heap.size,2,none⟩=some (.int .i64 k)) (first|go_keep) (first|fail)
 all_goals
  first
   | (refine world_on (fun wx=>AtD w wx (w.heap.size+1+1) (w.heap.size+1+1+1) (some ad) n c seed k (List.replicate n (.string ByteArray.empty))) (atD_A w (some ad) n c seed k hzw) ?_)
   | (refine world_on (fun wx=>AtD w wx (w.heap.size+1+1+1) (w.heap.size+1+1) (some ad) n c seed k (List.replicate n (.string ByteArray.empty))) (atD_B w (some ad) n c seed k hzw) ?_)
  intro wx hx;have x0:=hx.t0;have x2:=hx.t2;obtain ⟨y0,y1,y2⟩:=hx.b0;have HX:=Lib.hid hx;clear hx
  go_wp2_with (first
  | (refine wpList_copy_own rfl (.tmp 56) (.tmp 58) _ _ rfl 22 Tryz.underlying31 rfl _ 0 n n ad n c rfl rfl _ 22 HX.out.s (vals.map Value.string) (by simp [HN.out]) (src_cells HX.out.bel hadb HALL.out) (by simp [HN.out]) (str_ones vals) ?_
     rw [copy_row n _ _ (by rw [List.length_map];exact HN.out)];have hx6:=HX.out.copied (ms:=vals.map Value.string);generalize hw6:wx.setRow _ (vals.map Value.string).toArray=w6 at hx6 ⊢;have z0:=hx6.t0;have z2:=hx6.t2;obtain ⟨v0,v1,v2⟩:=hx6.b0;obtain ⟨r0,r1,r2,rf⟩:=hx6.r0;have rf0:=rf 0;have rf1:=rf 1;have rf2:=rf 2;have hsrc:=src_cells hx6.bel hadb HALL.out k (.string (B v)) (by rw [List.getElem?_map,List.getElem?_eq_getElem (by rw [HN.out];exact hk),← sgetD_lt (by rw [HN.out];exact hk),HV.out];rfl);have H6:=Lib.hid hx6
     clear hx6 hw6 rf))
  have hpb:(ad.add k).block<w.heap.size:=by rw [block_of_add];exact hadb
  first
   | (go_region_held3 (fun w'=>w'.cell? ⟨w.heap.size,0,none⟩=some (.slice (some ad) n c)∧w'.cell? ⟨w.heap.size,2,none⟩=some (.int .i64 k)∧w'.cell? (ad.add k)=some (.string (B v))∧w'.cell? ⟨w.heap.size+1+1,0,none⟩=some (.slice (some ⟨w.heap.size+1+1+1,0,none⟩) n n)∧w'.cell? ⟨w.heap.size+1+1,1,none⟩=some (.string seed)∧w'.cell? ⟨w.heap.size+1+1,2,none⟩=some (.int .i64 ((k:Int)+1))∧(∃ u,w'.cell? ⟨w.heap.size+1,0,none⟩=some u)∧(∃ u,w'.cell? ⟨w.heap.size+1,1,none⟩=some u)∧(∃ u,w'.cell? ⟨w.heap.size+1,2,none⟩=some u)∧w'.frozen? ⟨w.heap.size+1,0,none⟩=false∧w'.frozen? ⟨w.heap.size+1,1,none⟩=false∧w'.frozen? ⟨w.heap.size+1,2,none⟩=false) (first|(with_reducible exact H6.out.stored (p:=ad.add k) hpb hsrc)|go_keep) (first|fail))
   | (go_region_held3 (fun w'=>w'.cell? ⟨w.heap.size,0,none⟩=some (.slice (some ad) n c)∧w'.cell? ⟨w.heap.size,2,none⟩=some (.int .i64 k)∧w'.cell? (ad.add k)=some (.string (B v))∧w'.cell? ⟨w.heap.size+1+1+1,0,none⟩=some (.slice (some ⟨w.heap.size+1+1,0,none⟩) n n)∧w'.cell? ⟨w.heap.size+1+1+1,1,none⟩=some (.string seed)∧w'.cell? ⟨w.heap.size+1+1+1,2,none⟩=some (.int .i64 ((k:Int)+1))∧(∃ u,w'.cell? ⟨w.heap.size+1,0,none⟩=some u)∧(∃ u,w'.cell? ⟨w.heap.size+1,1,none⟩=some u)∧(∃ u,w'.cell? ⟨w.heap.size+1,2,none⟩=some u)∧w'.frozen? ⟨w.heap.size+1,0,none⟩=false∧w'.frozen? ⟨w.heap.size+1,1,none⟩=false∧w'.frozen? ⟨w.heap.size+1,2,none⟩=false) (first|(with_reducible exact H6.out.stored (p:=ad.add k) hpb hsrc)|go_keep) (first|fail))
  go_wp2_with fail
  first
   | exact bodyPost_ret (v:=.tuple #[.string (B v),.agg #[.slice (some ⟨w.heap.size+1+1+1,0,none⟩) n n,.string seed,.int .i64 ((k:Int)+1)],.int .i64 0]) (by simp [results,Tryz.results55,go_sem,r0,r1,r2]) rfl ⟨⟨_,rfl,H6.out.res.1,Nat.le_trans (Nat.le_add_right _ 2) H6.out.hs⟩,H6.out.res.2⟩
   | exact bodyPost_ret (v:=.tuple #[.string (B v),.agg #[.slice (some ⟨w.heap.size+1+1,0,none⟩) n n,.string seed,.int .i64 ((k:Int)+1)],.int .i64 0]) (by simp [results,Tryz.results55,go_sem,r0,r1,r2]) rfl ⟨⟨_,rfl,H6.out.res.1,Nat.le_trans (Nat.le_add_right _ 2) H6.out.hs⟩,H6.out.res.2⟩
def seedPostF (k:Nat) (r:Option Nat) (n:Nat) (seed:ByteArray) (z:Int) (vals:List ByteArray) (e:Ending) (w':World):Prop :=
 match r with
 | some x=>∃ g,e=.returned (.tuple #[.string (B x),.agg #[.slice (some ⟨g,0,none⟩) n n,.string seed,.int .i64 (z+1)],.int .i64 0])∧SLs w' w'.heap.size (some ⟨g,0,none⟩) vals∧k≤g
 | none=>e=.returned (.tuple #[.string ⟨#[]⟩,.agg #[.slice none 0 0,.string ⟨#[]⟩,.int .i64 0],.int .i64 14])
theorem draw_seedF (vals:List ByteArray) (A:Option Addr) (n c:Nat) (seed:ByteArray) (z:Int) (m:Nat) (w:World) (hn:vals.length=n) (hm:n≤1000) (h:SLs w w.heap.size A vals) (hz:(n:Int)≤z) (hz1:z<2147483647)
  (he:seed.toList.isEmpty=false) (hm0:1≤m) (hm1:m<18446744073709551616) (hs:seed.size≤100000) (hT:Tab10 w) :
  Calls Tryz.prog 55 #[.agg #[.slice A n c,.string seed,.int .i64 z],.string (B m)] w fun e w'=>seedPostF w.heap.size (tryF seed z m) n seed z vals e w'∧Below w.heap.size w w':=by
 have hzw:IntKind.i64.wrap (z+1)=z+1:=by rw [IntKind.wrap_i64];omega
 have i1:¬ z<(n:Int):=by omega
 have i3:(z==2147483647)=false:=by rw [beq_eq_false_iff_ne];omega
 have hmk:=make_strs n (by omega);have HN:=Lib.hid hn;have HS:=Lib.hid h;have HT:=Lib.hid hT;have HZ:=Lib.hid (And.intro hz hz1);clear hn h hT hz1
 go_enter Tryz.func55, Tryz.ntmps55
 go_wp2_with fail;have d0:((w.alloc (.cells #[.slice A n c,.string seed,.int .i64 z] 39)).alloc (.cells #[.slice none 0 0,.string ⟨#[]⟩,.int .i64 0] 39)).cell? ⟨w.heap.size,0,none⟩=some (.slice A n c):=by simp [go_sem]
 have d1:((w.alloc (.cells #[.slice A n c,.string seed,.int .i64 z] 39)).alloc (.cells #[.slice none 0 0,.string ⟨#[]⟩,.int .i64 0] 39)).cell? ⟨w.heap.size,1,none⟩=some (.string seed):=by simp [go_sem]
 have d2:((w.alloc (.cells #[.slice A n c,.string seed,.int .i64 z] 39)).alloc (.cells #[.slice none 0 0,.string ⟨#[]⟩,.int .i64 0] 39)).cell? ⟨w.heap.size,2,none⟩=some (.int .i64 z):=by simp [go_sem]
 go_region_held3 (fun w'=>w'.cell? ⟨w.heap.size,0,none⟩=some (.slice A n c)∧w'.cell? ⟨w.heap.size,1,none⟩=some (.string seed)∧w'.cell? ⟨w.heap.size,2,none⟩=some (.int .i64 z)) (first|go_keep) (first|fail)
 all_goals
  first
   | (refine world_on (fun wx=>AtD w wx (w.heap.size+1+1) (w.heap.size+1+1+1) A n c seed z (List.replicate n (.string ByteArray.empty))) (atD_A w A n c seed z hzw) ?_
      intro wx hx;generalize w.heap.size+1+1+1=gs at hx ⊢
      generalize w.heap.size+1+1=gb at hx ⊢)
   | (refine world_on (fun wx=>AtD w wx (w.heap.size+1+1+1) (w.heap.size+1+1) A n c seed z (List.replicate n (.string ByteArray.empty))) (atD_B w A n c seed z hzw) ?_
      intro wx hx;generalize w.heap.size+1+1+1=gb at hx ⊢
      generalize w.heap.size+1+1=gs at hx ⊢)
  have x0:=hx.t0;have x2:=hx.t2;obtain ⟨y0,y1,y2⟩:=hx.b0;have HX:=Lib.hid hx;clear hx;have KBT:=Lib.hid (fun w=>natural_Bits (B m) w);have hbb:natBits (B m)=bitsN m:=by unfold natBits;rw [valid_B (Nat.lt_trans hm1 (by decide)),num_B];rfl
  rw [hbb] at KBT;obtain ⟨bl,hbl⟩:∃ bl,bl=bitsN m:=⟨_,rfl⟩;rw [← hbl] at KBT;have hbl0:1≤bl:=by rw [hbl];unfold bitsN;rw [if_neg (by omega)];omega
  have hbl1:bl≤256:=by
   rw [hbl];unfold bitsN;rw [if_neg (by omega)];have:=(Nat.log2_lt (n:=m) (k:=64) (by omega)).2 hm1;omega
  have HBL:=Lib.hid hbl;clear hbb hbl
  go_wp2_with (first
   | (refine wpList_copy_strs rfl (.tmp 56) (.tmp 58) rfl rfl rfl HX.out HS.out HN.out ?_
      intro w6 hx6;have z0:=hx6.t0;have z2:=hx6.t2;have H6:=Lib.hid hx6
      clear hx6))
  clear d0 d1 d2 x0 x2 y0 y1 y2 z0 z2 hmk;go_loopw [73] (fun v wr=>∃ i:Nat,v=.int .i64 i∧i≤256∧AtD w wr gb gs A n c seed z (vals.map Value.string)∧∀ j,j<i→¬ attN seed z j (bitsN m)<m) (fun v _=>256-(intOf v).toNat)
  case atStart=>exact ⟨0,rfl,by decide,H6.out,fun j h=>absurd h (by omega)⟩
  case round =>
   clear H6 HX;obtain ⟨i,rfl,hi,hat,hno⟩:=hrel;have HA:=Lib.hid hat;have HNO:=Lib.hid hno;clear hat hno;by_cases hlt:i<256
   · obtain ⟨x,hx⟩:∃ x,x=attN seed z i bl:=⟨_,rfl⟩
     have hxl:x<2^64:=by
      rw [hx];refine Nat.lt_of_lt_of_le (Nat.mod_lt _ (Nat.pow_pos (by decide))) (Nat.pow_le_pow_right (by decide) ?_);rw [HBL.out];unfold bitsN;rw [if_neg (by omega)];have:=(Nat.log2_lt (n:=m) (k:=64) (by omega)).2 hm1;omega
     have KAT:=Lib.hid (fun wq (hT:Tab10 wq)=>coins_attempt A n c seed z i bl wq (by omega) (by have:=HZ.out.2;omega) (by omega) (by omega) hs hT hbl0 hbl1);rw [← hx] at KAT;have HAD:Hid (AtD w wr.drew gb gs A n c seed z (vals.map Value.string)):=Lib.hid (HA.out.next (Below.refl _ _).drew);have HTD:Hid (Tab10 wr.drew):=Lib.hid (HT.out.below HAD.out.bel);have t0:=HA.out.t0;have t1:=HA.out.t1;have t2:=HA.out.t2;have KC:=Lib.hid (fun w=>natural_Cmp (B x) (B m) w);rw [natCmp_BB (Nat.lt_trans hxl (by decide)) (Nat.lt_trans hm1 (by decide))] at KC;have p1:(i:Int)<256:=by omega
     have HLT:=Lib.hid hlt;have HXX:=Lib.hid hx;clear hx hxl hlt hi;by_cases hxm:x<m
     · rw [show cmpN x m=-1 from by unfold cmpN;rw [if_pos hxm]] at KC
       have HXM:=Lib.hid hxm;clear hxm;go_wp2_with fail;go_region_held3 (fun w'=>w'.cell? ⟨w.heap.size,0,none⟩=some (.slice A n c)∧w'.cell? ⟨w.heap.size,1,none⟩=some (.string seed)∧w'.cell? ⟨w.heap.size,2,none⟩=some (.int .i64 z)) (first|go_keep) (first|(go_at_call 89;(with_reducible refine (KBT.out _).mono ?_);rintro e w' ⟨rfl,rfl⟩)|(go_at_call 112;(with_reducible refine (KAT.out _ HTD.out).mono ?_);rintro e w7 ⟨rfl,hb7⟩;have HA7:=Lib.hid (HAD.out.next hb7);have u0:=HA7.out.t0;have u1:=HA7.out.t1;have u2:=HA7.out.t2;clear hb7))
       have htry:tryF seed z m=some x:=by
        rw [HXX.out,HBL.out];exact find_hit HLT.out HNO.out (by rw [← HBL.out,← HXX.out];exact HXM.out)
       have HTRY:=Lib.hid htry;obtain ⟨v0,v1,v2⟩:=HA7.out.b0;obtain ⟨r0,r1,r2,rf⟩:=HA7.out.r0;have rf0:=rf 0;have rf1:=rf 1;have rf2:=rf 2;clear htry rf;go_wp2_with (first|(go_at_call 43;(with_reducible refine (KC.out _).mono ?_);rintro e w8 ⟨rfl,rfl⟩));go_region_held3 (fun w'=>w'.cell? ⟨gb,0,none⟩=some (.slice (some ⟨gs,0,none⟩) n n)∧w'.cell? ⟨gb,1,none⟩=some (.string seed)∧w'.cell? ⟨gb,2,none⟩=some (.int .i64 (z+1))∧(∃ u,w'.cell? ⟨w.heap.size+1,0,none⟩=some u)∧(∃ u,w'.cell? ⟨w.heap.size+1,1,none⟩=some u)∧(∃ u,w'.cell? ⟨w.heap.size+1,2,none⟩=some u)∧w'.frozen? ⟨w.heap.size+1,0,none⟩=false∧w'.frozen? ⟨w.heap.size+1,1,none⟩=false∧w'.frozen? ⟨w.heap.size+1,2,none⟩=false) (first|(with_reducible exact HA7.out.stored9)|go_keep) (first|fail)
       all_goals
        go_wp2_with fail;exact bodyPost_ret (v:=.tuple #[.string (B x),.agg #[.slice (some ⟨gs,0,none⟩) n n,.string seed,.int .i64 (z+1)],.int .i64 0]) (by simp [results,Tryz.results55,go_sem,r0,r1,r2]) rfl ⟨by rw [HTRY.out];exact ⟨_,rfl,HA7.out.res.1,Nat.le_trans (Nat.le_add_right _ 2) HA7.out.hs⟩,HA7.out.res.2⟩
     · obtain ⟨y,hy,hy0⟩:∃ y:Int,cmpN x m=y∧0≤y:=⟨_,rfl,by unfold cmpN;rw [if_neg hxm];split<;>decide⟩
       rw [hy] at KC;have HXM:=Lib.hid hxm;clear hy hxm;go_wp2_with fail;go_region_held3 (fun w'=>w'.cell? ⟨w.heap.size,0,none⟩=some (.slice A n c)∧w'.cell? ⟨w.heap.size,1,none⟩=some (.string seed)∧w'.cell? ⟨w.heap.size,2,none⟩=some (.int .i64 z)) (first|go_keep) (first|(go_at_call 89;(with_reducible refine (KBT.out _).mono ?_);rintro e w' ⟨rfl,rfl⟩)|(go_at_call 112;(with_reducible refine (KAT.out _ HTD.out).mono ?_);rintro e w7 ⟨rfl,hb7⟩;have HA7:=Lib.hid (HAD.out.next hb7);have u0:=HA7.out.t0;have u1:=HA7.out.t1;have u2:=HA7.out.t2;clear hb7));go_wp2_with (first|(go_at_call 43;(with_reducible refine (KC.out _).mono ?_);rintro e w8 ⟨rfl,rfl⟩));go_roundw
       case rel =>
        refine ⟨i+1,rfl,HLT.out,HA7.out,fun j hj=>?_⟩;by_cases e:j=i
        · subst e;rw [← HBL.out,← HXX.out];exact HXM.out
        · exact HNO.out j (by omega)
       case measure=>have:=HLT.out;show 256-((i:Int)+1).toNat<256-(i:Int).toNat;omega
   · obtain rfl:i=256:=by omega
     have HTRY:=Lib.hid (find_miss HNO.out);obtain ⟨r0,r1,r2,rf⟩:=HA.out.r0;have rf0:=rf 0;have rf1:=rf 1;have rf2:=rf 2;clear rf;go_wp2_with fail;exact bodyPost_ret (v:=.tuple #[.string ⟨#[]⟩,.agg #[.slice none 0 0,.string ⟨#[]⟩,.int .i64 0],.int .i64 14]) (by simp [results,Tryz.results55,go_sem,r0,r1,r2]) rfl ⟨by rw [HTRY.out];rfl,by first|exact HA.out.bel3|exact HA.out.bel⟩
def drawPostF (k:Nat) (d:Int × Nat) (n:Nat) (seed:ByteArray) (z:Int) (vals:List ByteArray) (e:Ending) (w':World):Prop :=
 (d.1=0∧∃ g,e=.returned (.tuple #[.string (B d.2),.agg #[.slice (some ⟨g,0,none⟩) n n,.string seed,.int .i64 (z+1)],.int .i64 0])∧SLs w' w'.heap.size (some ⟨g,0,none⟩) vals∧k≤g) ∨
 (d.1≠0∧e=.returned (.tuple #[.string ⟨#[]⟩,.agg #[.slice none 0 0,.string ⟨#[]⟩,.int .i64 0],.int .i64 d.1]))
theorem coins_drawF (vals:List ByteArray) (A:Option Addr) (n c:Nat) (seed:ByteArray) (z:Int) (m:Nat) (w:World) (hn:vals.length=n) (hm:n≤1000) (h:SLs w w.heap.size A vals) (hg:goodT vals z=true)
  (hm0:1≤m) (hm1:m<18446744073709551616) (hs:seed.size≤100000) (hT:Tab10 w) :
  Calls Tryz.prog 55 #[.agg #[.slice A n c,.string seed,.int .i64 z],.string (B m)] w fun e w'=>drawPostF w.heap.size (drawS vals seed z m) n seed z vals e w'∧Below w.heap.size w w':=by
 obtain ⟨h0,h1,hall⟩:=good_parts hg;by_cases hz:z<(n:Int)
 · obtain ⟨k,rfl⟩:∃ k:Nat,z=(k:Int):=⟨z.toNat,by omega⟩
   have hk:k<n:=by omega
   have hvalid:valid (vals.getD k ByteArray.empty)=true:=by
    rw [List.all_eq_true] at hall;rw [sgetD_lt (by omega)];exact hall _ (List.getElem_mem _)
   have hv:=(B_num hvalid).symm;have hv1:=valid_num_lt hvalid
   have hd:drawS vals seed (k:Int) m=if m≤num (vals.getD k ByteArray.empty) then (2,0) else (0,num (vals.getD k ByteArray.empty)):=by
    unfold drawS;rw [if_pos (by rw [hn];exact hz)];rfl
   by_cases hvm:m≤num (vals.getD k ByteArray.empty)
   · rw [hd,if_pos hvm]
     refine (draw_high vals A n c seed k _ m w hn hm h hk hv hv1 hvm hm1).mono ?_;rintro e w' ⟨rfl,hb⟩;exact ⟨.inr ⟨by decide,rfl⟩,hb⟩
   · rw [hd,if_neg hvm]
     refine (draw_valueF vals A n c seed k _ m w hn hm h hk hv hv1 (by omega) hm1 hs).mono ?_;rintro e w' ⟨⟨g,rfl,hg,hf⟩,hb⟩;exact ⟨.inl ⟨rfl,g,rfl,hg,hf⟩,hb⟩
 · by_cases hq:seed.toList.isEmpty=true∨z=2147483647
   · have hd:drawS vals seed z m=(14,0):=by unfold drawS;rw [if_neg (by rw [hn];exact hz),if_pos hq]
     rw [hd];refine (draw_none vals A n c seed z m w hm (by omega) hq).mono ?_;rintro e w' ⟨rfl,hb⟩;exact ⟨.inr ⟨by decide,rfl⟩,hb⟩
   · have he:seed.toList.isEmpty=false:=by
      cases hh:seed.toList.isEmpty
      · rfl
      · exact absurd (.inl hh) hq
     refine (draw_seedF vals A n c seed z m w hn hm h (by omega) (by have:z≠2147483647:=fun e=>hq (.inr e);omega) he hm0 hm1 hs hT).mono ?_;rintro e w' ⟨hp,hb⟩;refine ⟨?_,hb⟩;unfold drawS;rw [if_neg (by rw [hn];exact hz),if_neg hq]
     cases ht:tryF seed z m with
     | some x =>
       rw [ht] at hp;obtain ⟨g,rfl,hg,hf⟩:=hp;exact .inl ⟨rfl,g,rfl,hg,hf⟩
     | none =>
       rw [ht] at hp;have hp':e=.returned (.tuple #[.string ⟨#[]⟩,.agg #[.slice none 0 0,.string ⟨#[]⟩,.int .i64 0],.int .i64 14]):=hp;subst hp';exact .inr ⟨by decide,rfl⟩
end Go.Proofs.YtiacajjpkncomaaGreatDoor
namespace Go.Proofs.YtiacajjpkncomaaGreatDoor
open Go.RowKit
set_option maxRecDepth 100000
set_option linter.unusedVariables false
set_option maxHeartbeats 4000000
theorem OwnS.far {w:World} {base n:Nat} {v u:Value} {ls:List ByteArray} {p:Addr} (h:OwnS w base v n ls) (hp:p.block<base):OwnS (w.setCell p u) base v n ls:=by
 refine ⟨h.1,h.2.1,?_⟩
 rcases h.2.2 with hn|⟨g,cap,cur,rfl,h1,hg,rest⟩
 · exact .inl hn
 · exact .inr ⟨g,cap,cur,rfl,h1,(Below.heap_setCell _ _ _ _ (fun e=>by rw [e] at h1;omega)).trans hg,rest⟩
theorem OwnS.block {w:World} {base n:Nat} {v:Value} {ls:List ByteArray} (h:OwnS w base v n ls):∀ k,v.ownBlock=some k→base≤k∧k<w.heap.size:=by
 intro k hk
 rcases h.2.2 with ⟨rfl,_⟩|⟨g,cap,cur,rfl,h1,hg,rest⟩
 · cases hk
 · cases hk
   exact ⟨h1,(Array.getElem?_eq_some_iff.1 hg).1⟩
theorem OwnS.slice {w:World} {base n:Nat} {v:Value} {ls:List ByteArray} (h:OwnS w base v n ls):∃ A c,v=.slice A n c:=by
 rcases h.2.2 with ⟨rfl,rfl⟩|⟨g,cap,cur,rfl,h1,hg,rest⟩
 · exact ⟨none,0,rfl⟩
 · exact ⟨_,_,rfl⟩
theorem SLs.put0' {w2:World} {g b:Nat} {vals:List ByteArray} {x y t:Value} {u1:Option Addr} {u2 u3:Nat} (hs:SLs w2 w2.heap.size (some ⟨g,0,none⟩) vals) (hb:w2.cell? ⟨b,0,none⟩=some (.slice u1 u2 u3)) :
  SLs (((w2.setCell ⟨b,0,none⟩ x).setCell ⟨b,1,none⟩ y).setCell ⟨b,2,none⟩ t) (((w2.setCell ⟨b,0,none⟩ x).setCell ⟨b,1,none⟩ y).setCell ⟨b,2,none⟩ t).heap.size (some ⟨g,0,none⟩) vals:=by
 have hs4:=SLs.put (x:=x) (y:=y) (t:=t) hs hb (fun s h=>by cases h);have e:(((w2.setCell ⟨b,0,none⟩ x).setCell ⟨b,1,none⟩ y).setCell ⟨b,2,none⟩ t).heap.size=w2.heap.size:=by simp
 rwa [← e] at hs4
end Go.Proofs.YtiacajjpkncomaaGreatDoor
namespace Go.Proofs.YtiacajjpkncomaaGreatDoor
open Go.RowKit
set_option maxRecDepth 100000
set_option linter.unusedVariables false
set_option maxHeartbeats 4000000
theorem coins_BelowF (vals:List ByteArray) (A:Option Addr) (n c:Nat) (seed:ByteArray) (z:Int) (m:Nat) (w:World) (hn:vals.length=n) (hm:n≤1000) (h:SLs w w.heap.size A vals)
  (hm0:1≤m) (hm1:m<18446744073709551616) (hs:seed.size≤100000) (hT:Tab10 w) :
  Calls Tryz.prog 22 #[.agg #[.slice A n c,.string seed,.int .i64 z],.string (B m)] w fun e w'=>drawPostF w.heap.size (belowS vals seed z m) n seed z vals e w'∧Below w.heap.size w w':=by
 have hb0:Below w.heap.size w ((w.alloc (.cells #[.slice A n c,.string seed,.int .i64 z] 39)).alloc (.cells #[.slice none 0 0,.string ⟨#[]⟩,.int .i64 0] 39)):=below_res w _ _;have KR:=Lib.hid (coins_ready vals A n c w.heap.size seed (B m) z _ hn (by omega) (h.below hb0) hb0.size);have HB0:=Lib.hid hb0;have HN:=Lib.hid hn;have HS:=Lib.hid h;have HT:=Lib.hid hT;have HA0:=Lib.hid (AtB.start w A n c seed z)
 cases hg:goodT vals z
 · rw [readyT_bad hg] at KR
   have hd:belowS vals seed z m=(3,0):=by unfold belowS;rw [hg];rfl
   rw [hd];clear hb0 hn h hT hd hg
   go_enter Tryz.func22, Tryz.ntmps22
   go_wp2_with (first|(go_at_call 54;(with_reducible refine KR.out.mono ?_);rintro e w1 ⟨rfl,hb1⟩
                       have HA1:=Lib.hid (HA0.out.next hb1);obtain ⟨r0,r1,r2,g0,g1,g2⟩:=HA1.out.r0
                       clear hb1))
   exact bodyPost_ret (v:=.tuple #[.string ⟨#[]⟩,.agg #[.slice none 0 0,.string ⟨#[]⟩,.int .i64 0],.int .i64 3]) (by simp [results,Tryz.results22,go_sem,r0,r1,r2]) rfl ⟨.inr ⟨by decide,rfl⟩,HA1.out.bel3⟩
 · rw [readyT_good hg hm0 (Nat.lt_trans hm1 (by decide))] at KR
   have hd:belowS vals seed z m=drawS vals seed z m:=by unfold belowS;rw [hg];rfl
   rw [hd];have KD:=Lib.hid (fun wq (h1:Below w.heap.size w wq)=>coins_drawF vals A n c seed z m wq hn hm ((h.below h1).more h1.size) hg hm0 hm1 hs (hT.below h1));obtain ⟨d,hdd⟩:∃ d,d=drawS vals seed z m:=⟨_,rfl⟩;rw [← hdd] at KD ⊢;clear hb0 hn h hT hd hg hdd;by_cases h0:d.1=0
   · have KE:Hid (∀ wq,Below w.heap.size w wq→Calls Tryz.prog 55 #[.agg #[.slice A n c,.string seed,.int .i64 z],.string (B m)] wq fun e w'=>(∃ g,e=.returned (.tuple #[.string (B d.2),.agg #[.slice (some ⟨g,0,none⟩) n n,.string seed,.int .i64 (z+1)],.int .i64 0])∧SLs w' w'.heap.size (some ⟨g,0,none⟩) vals∧w.heap.size≤g)∧Below wq.heap.size wq w'):=Lib.hid (fun wq h1=>(KD.out wq h1).mono (by
      rintro e w' ⟨⟨_,g,he,hs2,hf2⟩|⟨h,_⟩,hb⟩
      · exact ⟨⟨g,he,hs2,Nat.le_trans h1.size hf2⟩,hb⟩
      · exact absurd h0 h))
     have H0:=Lib.hid h0;clear h0 KD
     go_enter Tryz.func22, Tryz.ntmps22
     go_wp2_with (first
      | (go_at_call 54;(with_reducible refine KR.out.mono ?_);rintro e w1 ⟨rfl,hb1⟩
         have HA1:=Lib.hid (HA0.out.next hb1);have t0:=HA1.out.t0;have t1:=HA1.out.t1;have t2:=HA1.out.t2
         clear hb1)
      | (go_at_call 55;(with_reducible refine (KE.out _ HA1.out.bel).mono ?_);rintro e w2 ⟨⟨g,rfl,hsl,hfr⟩,hb2⟩
         have HA2:=Lib.hid (HA1.out.next hb2);have HSL:=Lib.hid hsl;have HFR:=Lib.hid hfr;obtain ⟨r0,r1,r2,g0,g1,g2⟩:=HA2.out.r0
         clear hb2 hsl hfr))
     refine bodyPost_ret (v:=.tuple #[.string (B d.2),.agg #[.slice (some ⟨g,0,none⟩) n n,.string seed,.int .i64 (z+1)],.int .i64 0]) (by simp [results,Tryz.results22,go_sem,r0,r1,r2]) rfl ⟨.inl ⟨H0.out,g,rfl,?_,HFR.out⟩,HA2.out.bel3⟩;exact HA2.out.keepS HSL.out
   · have KE:Hid (∀ wq,Below w.heap.size w wq→Calls Tryz.prog 55 #[.agg #[.slice A n c,.string seed,.int .i64 z],.string (B m)] wq fun e w'=>e=.returned (.tuple #[.string ⟨#[]⟩,.agg #[.slice none 0 0,.string ⟨#[]⟩,.int .i64 0],.int .i64 d.1])∧Below wq.heap.size wq w'):=Lib.hid (fun wq h1=>(KD.out wq h1).mono (by
      rintro e w' ⟨⟨h,_⟩|⟨_,hp⟩,hb⟩
      · exact absurd h h0
      · exact ⟨hp,hb⟩))
     have H0:=Lib.hid h0;clear h0 KD
     go_enter Tryz.func22, Tryz.ntmps22
     go_wp2_with (first
      | (go_at_call 54;(with_reducible refine KR.out.mono ?_);rintro e w1 ⟨rfl,hb1⟩
         have HA1:=Lib.hid (HA0.out.next hb1);have t0:=HA1.out.t0;have t1:=HA1.out.t1;have t2:=HA1.out.t2
         clear hb1)
      | (go_at_call 55;(with_reducible refine (KE.out _ HA1.out.bel).mono ?_);rintro e w2 ⟨rfl,hb2⟩
         have HA2:=Lib.hid (HA1.out.next hb2);obtain ⟨r0,r1,r2,g0,g1,g2⟩:=HA2.out.r0
         clear hb2))
     exact bodyPost_ret (v:=.tuple #[.string ⟨#[]⟩,.agg #[.slice none 0 0,.string ⟨#[]⟩,.int .i64 0],.int .i64 d.1]) (by simp [results,Tryz.results22,go_sem,r0,r1,r2]) rfl ⟨.inr ⟨H0.out,rfl⟩,HA2.out.bel3⟩
def searchPostF (k:Nat) (d:Int × Nat × Int) (n:Nat) (seed:ByteArray) (vals:List ByteArray) (e:Ending) (w':World):Prop :=
 (d.1=0∧∃ g,e=.returned (.tuple #[.string (B d.2.1),.agg #[.slice (some ⟨g,0,none⟩) n n,.string seed,.int .i64 d.2.2],.int .i64 0])∧SLs w' w'.heap.size (some ⟨g,0,none⟩) vals∧k≤g) ∨
 (d.1≠0∧e=.returned (.tuple #[.string ⟨#[]⟩,.agg #[.slice none 0 0,.string ⟨#[]⟩,.int .i64 0],.int .i64 d.1]))
theorem searchPostF.le {k k':Nat} {d:Int × Nat × Int} {n:Nat} {seed:ByteArray} {vals:List ByteArray} {e:Ending} {w':World} (h:searchPostF k d n seed vals e w') (hk:k'≤k):searchPostF k' d n seed vals e w':=by
 rcases h with ⟨h0,g,he,hs,hf⟩|h
 · exact .inl ⟨h0,g,he,hs,Nat.le_trans hk hf⟩
 · exact .inr h
theorem searchPostF.plain {k:Nat} {d:Int × Nat × Int} {n:Nat} {seed:ByteArray} {vals:List ByteArray} {e:Ending} {w':World} (h:searchPostF k d n seed vals e w'):searchPost d n seed vals e w':=by
 rcases h with ⟨h0,g,he,hs,_⟩|h
 · exact .inl ⟨h0,g,he,hs⟩
 · exact .inr h
def TailF (k:Nat) (d:Int × Nat × Int) (n:Nat) (seed:ByteArray) (vals:List ByteArray) (s:ByteArray) (A:Option Addr) (n' c':Nat) (sd:ByteArray) (zz:Int) (w':World):Prop :=
 (d.1=0∧s=B d.2.1∧n'=n∧c'=n∧sd=seed∧zz=d.2.2∧(∃ g,A=some ⟨g,0,none⟩∧k≤g)∧SLs w' w'.heap.size A vals)∨(d.1≠0∧s=⟨#[]⟩∧A=none∧n'=0∧c'=0∧sd=⟨#[]⟩∧zz=0)
theorem searchPostF.tail {k:Nat} {d:Int × Nat × Int} {n:Nat} {seed:ByteArray} {vals:List ByteArray} {e:Ending} {w':World} (h:searchPostF k d n seed vals e w') :
  ∃ s A n' c' sd zz,e=.returned (.tuple #[.string s,.agg #[.slice A n' c',.string sd,.int .i64 zz],.int .i64 d.1])∧TailF k d n seed vals s A n' c' sd zz w':=by
 rcases h with ⟨h0,g,rfl,hs,hf⟩|⟨h0,rfl⟩
 · exact ⟨_,_,_,_,_,_,by rw [h0],.inl ⟨h0,rfl,rfl,rfl,rfl,rfl,⟨g,rfl,hf⟩,hs⟩⟩
 · exact ⟨_,_,_,_,_,_,rfl,.inr ⟨h0,rfl,rfl,rfl,rfl,rfl,rfl⟩⟩
theorem TailF.post {k:Nat} {d:Int × Nat × Int} {n n' c':Nat} {seed s sd:ByteArray} {A:Option Addr} {zz:Int} {vals:List ByteArray} {w':World} (h:TailF k d n seed vals s A n' c' sd zz w') :
  searchPostF k d n seed vals (.returned (.tuple #[.string s,.agg #[.slice A n' c',.string sd,.int .i64 zz],.int .i64 d.1])) w':=by
 rcases h with ⟨h0,rfl,rfl,rfl,rfl,rfl,⟨g,rfl,hf⟩,hs⟩|⟨h0,rfl,rfl,rfl,rfl,rfl,rfl⟩
 · exact .inl ⟨h0,g,by rw [h0],hs,hf⟩
 · exact .inr ⟨h0,rfl⟩
theorem TailF.put {k:Nat} {d:Int × Nat × Int} {n n' c' b:Nat} {seed s sd:ByteArray} {A:Option Addr} {zz:Int} {vals:List ByteArray} {w':World} {x y t:Value} {u1:Option Addr} {u2 u3:Nat} (h:TailF k d n seed vals s A n' c' sd zz w')
  (hb:w'.cell? ⟨b,0,none⟩=some (.slice u1 u2 u3)):TailF k d n seed vals s A n' c' sd zz (((w'.setCell ⟨b,0,none⟩ x).setCell ⟨b,1,none⟩ y).setCell ⟨b,2,none⟩ t):=by
 rcases h with ⟨h0,rfl,rfl,rfl,rfl,rfl,⟨g,rfl,hf⟩,hs⟩|h
 · have hs4:=SLs.put (x:=x) (y:=y) (t:=t) hs hb (fun s h=>by cases h)
   have e:(((w'.setCell ⟨b,0,none⟩ x).setCell ⟨b,1,none⟩ y).setCell ⟨b,2,none⟩ t).heap.size=w'.heap.size:=by simp
   rw [← e] at hs4;exact .inl ⟨h0,rfl,rfl,rfl,rfl,rfl,⟨g,rfl,hf⟩,hs4⟩
 · exact .inr h
theorem coins_drawZ (vals:List ByteArray) (A:Option Addr) (n c:Nat) (seed:ByteArray) (z:Int) (m:Nat) (w:World) (hn:vals.length=n) (hm:n≤1000) (h:SLs w w.heap.size A vals) (hg:goodT vals z=true)
  (hm0:1≤m) (hm1:m<18446744073709551616) (hs:seed.size≤100000) (hz0:seed.toList.isEmpty=true) :
  Calls Tryz.prog 55 #[.agg #[.slice A n c,.string seed,.int .i64 z],.string (B m)] w fun e w'=>drawPostF w.heap.size (drawS vals seed z m) n seed z vals e w'∧Below w.heap.size w w':=by
 obtain ⟨h0,h1,hall⟩:=good_parts hg;by_cases hz:z<(n:Int)
 · obtain ⟨k,rfl⟩:∃ k:Nat,z=(k:Int):=⟨z.toNat,by omega⟩
   have hk:k<n:=by omega
   have hvalid:valid (vals.getD k ByteArray.empty)=true:=by
    rw [List.all_eq_true] at hall;rw [sgetD_lt (by omega)];exact hall _ (List.getElem_mem _)
   have hv:=(B_num hvalid).symm;have hv1:=valid_num_lt hvalid
   have hd:drawS vals seed (k:Int) m=if m≤num (vals.getD k ByteArray.empty) then (2,0) else (0,num (vals.getD k ByteArray.empty)):=by
    unfold drawS;rw [if_pos (by rw [hn];exact hz)];rfl
   by_cases hvm:m≤num (vals.getD k ByteArray.empty)
   · rw [hd,if_pos hvm]
     refine (draw_high vals A n c seed k _ m w hn hm h hk hv hv1 hvm hm1).mono ?_;rintro e w' ⟨rfl,hb⟩;exact ⟨.inr ⟨by decide,rfl⟩,hb⟩
   · rw [hd,if_neg hvm]
     refine (draw_valueF vals A n c seed k _ m w hn hm h hk hv hv1 (by omega) hm1 hs).mono ?_;rintro e w' ⟨⟨g,rfl,hg,hf⟩,hb⟩;exact ⟨.inl ⟨rfl,g,rfl,hg,hf⟩,hb⟩
 · by_cases hq:seed.toList.isEmpty=true∨z=2147483647
   · have hd:drawS vals seed z m=(14,0):=by unfold drawS;rw [if_neg (by rw [hn];exact hz),if_pos hq]
     rw [hd];refine (draw_none vals A n c seed z m w hm (by omega) hq).mono ?_;rintro e w' ⟨rfl,hb⟩;exact ⟨.inr ⟨by decide,rfl⟩,hb⟩
   · exact absurd (.inl hz0) hq
theorem coins_BelowZ (vals:List ByteArray) (A:Option Addr) (n c:Nat) (seed:ByteArray) (z:Int) (m:Nat) (w:World) (hn:vals.length=n) (hm:n≤1000) (h:SLs w w.heap.size A vals)
  (hm0:1≤m) (hm1:m<18446744073709551616) (hs:seed.size≤100000) (hz0:seed.toList.isEmpty=true) :
  Calls Tryz.prog 22 #[.agg #[.slice A n c,.string seed,.int .i64 z],.string (B m)] w fun e w'=>drawPostF w.heap.size (belowS vals seed z m) n seed z vals e w'∧Below w.heap.size w w':=by
 have hb0:Below w.heap.size w ((w.alloc (.cells #[.slice A n c,.string seed,.int .i64 z] 39)).alloc (.cells #[.slice none 0 0,.string ⟨#[]⟩,.int .i64 0] 39)):=below_res w _ _;have KR:=Lib.hid (coins_ready vals A n c w.heap.size seed (B m) z _ hn (by omega) (h.below hb0) hb0.size);have HB0:=Lib.hid hb0;have HN:=Lib.hid hn;have HS:=Lib.hid h;have HA0:=Lib.hid (AtB.start w A n c seed z)
 cases hg:goodT vals z
 · rw [readyT_bad hg] at KR
   have hd:belowS vals seed z m=(3,0):=by unfold belowS;rw [hg];rfl
   rw [hd];clear hb0 hn h hz0 hd hg
   go_enter Tryz.func22, Tryz.ntmps22
   go_wp2_with (first|(go_at_call 54;(with_reducible refine KR.out.mono ?_);rintro e w1 ⟨rfl,hb1⟩
                       have HA1:=Lib.hid (HA0.out.next hb1);obtain ⟨r0,r1,r2,g0,g1,g2⟩:=HA1.out.r0
                       clear hb1))
   exact bodyPost_ret (v:=.tuple #[.string ⟨#[]⟩,.agg #[.slice none 0 0,.string ⟨#[]⟩,.int .i64 0],.int .i64 3]) (by simp [results,Tryz.results22,go_sem,r0,r1,r2]) rfl ⟨.inr ⟨by decide,rfl⟩,HA1.out.bel3⟩
 · rw [readyT_good hg hm0 (Nat.lt_trans hm1 (by decide))] at KR
   have hd:belowS vals seed z m=drawS vals seed z m:=by unfold belowS;rw [hg];rfl
   rw [hd];have KD:=Lib.hid (fun wq (h1:Below w.heap.size w wq)=>coins_drawZ vals A n c seed z m wq hn hm ((h.below h1).more h1.size) hg hm0 hm1 hs hz0);obtain ⟨d,hdd⟩:∃ d,d=drawS vals seed z m:=⟨_,rfl⟩;rw [← hdd] at KD ⊢;clear hb0 hn h hz0 hd hg hdd;by_cases h0:d.1=0
   · have KE:Hid (∀ wq,Below w.heap.size w wq→Calls Tryz.prog 55 #[.agg #[.slice A n c,.string seed,.int .i64 z],.string (B m)] wq fun e w'=>(∃ g,e=.returned (.tuple #[.string (B d.2),.agg #[.slice (some ⟨g,0,none⟩) n n,.string seed,.int .i64 (z+1)],.int .i64 0])∧SLs w' w'.heap.size (some ⟨g,0,none⟩) vals∧w.heap.size≤g)∧Below wq.heap.size wq w'):=Lib.hid (fun wq h1=>(KD.out wq h1).mono (by
      rintro e w' ⟨⟨_,g,he,hs2,hf2⟩|⟨h,_⟩,hb⟩
      · exact ⟨⟨g,he,hs2,Nat.le_trans h1.size hf2⟩,hb⟩
      · exact absurd h0 h))
     have H0:=Lib.hid h0;clear h0 KD
     go_enter Tryz.func22, Tryz.ntmps22
     go_wp2_with (first
      | (go_at_call 54;(with_reducible refine KR.out.mono ?_);rintro e w1 ⟨rfl,hb1⟩
         have HA1:=Lib.hid (HA0.out.next hb1);have t0:=HA1.out.t0;have t1:=HA1.out.t1;have t2:=HA1.out.t2
         clear hb1)
      | (go_at_call 55;(with_reducible refine (KE.out _ HA1.out.bel).mono ?_);rintro e w2 ⟨⟨g,rfl,hsl,hfr⟩,hb2⟩
         have HA2:=Lib.hid (HA1.out.next hb2);have HSL:=Lib.hid hsl;have HFR:=Lib.hid hfr;obtain ⟨r0,r1,r2,g0,g1,g2⟩:=HA2.out.r0
         clear hb2 hsl hfr))
     refine bodyPost_ret (v:=.tuple #[.string (B d.2),.agg #[.slice (some ⟨g,0,none⟩) n n,.string seed,.int .i64 (z+1)],.int .i64 0]) (by simp [results,Tryz.results22,go_sem,r0,r1,r2]) rfl ⟨.inl ⟨H0.out,g,rfl,?_,HFR.out⟩,HA2.out.bel3⟩;exact HA2.out.keepS HSL.out
   · have KE:Hid (∀ wq,Below w.heap.size w wq→Calls Tryz.prog 55 #[.agg #[.slice A n c,.string seed,.int .i64 z],.string (B m)] wq fun e w'=>e=.returned (.tuple #[.string ⟨#[]⟩,.agg #[.slice none 0 0,.string ⟨#[]⟩,.int .i64 0],.int .i64 d.1])∧Below wq.heap.size wq w'):=Lib.hid (fun wq h1=>(KD.out wq h1).mono (by
      rintro e w' ⟨⟨h,_⟩|⟨_,hp⟩,hb⟩
      · exact absurd h h0
      · exact ⟨hp,hb⟩))
     have H0:=Lib.hid h0;clear h0 KD
     go_enter Tryz.func22, Tryz.ntmps22
     go_wp2_with (first
      | (go_at_call 54;(with_reducible refine KR.out.mono ?_);rintro e w1 ⟨rfl,hb1⟩
         have HA1:=Lib.hid (HA0.out.next hb1);have t0:=HA1.out.t0;have t1:=HA1.out.t1;have t2:=HA1.out.t2
         clear hb1)
      | (go_at_call 55;(with_reducible refine (KE.out _ HA1.out.bel).mono ?_);rintro e w2 ⟨rfl,hb2⟩
         have HA2:=Lib.hid (HA1.out.next hb2);obtain ⟨r0,r1,r2,g0,g1,g2⟩:=HA2.out.r0
         clear hb2))
     exact bodyPost_ret (v:=.tuple #[.string ⟨#[]⟩,.agg #[.slice none 0 0,.string ⟨#[]⟩,.int .i64 0],.int .i64 d.1]) (by simp [results,Tryz.results22,go_sem,r0,r1,r2]) rfl ⟨.inr ⟨H0.out,rfl⟩,HA2.out.bel3⟩
end Go.Proofs.YtiacajjpkncomaaGreatDoor
