/- The walk of power.checked and power.Product for any number of elements and exponents. -/
import Derived.Test.YtiacajjpkncomaaGreatDoorExJ8
import Derived.Test.YtiacajjpkncomaaGreatDoorExJ4
import Derived.Test.YtiacajjpkncomaaGreatDoorExI6
import Derived.Test.YtiacajjpkncomaaGreatDoorExBM
namespace Go.Proofs.YtiacajjpkncomaaGreatDoor
open Go.RowKit
set_option maxRecDepth 100000
set_option linter.unusedVariables false
set_option maxHeartbeats 4000000
theorem al_at {p:ByteArray→Bool} {ls:List ByteArray} {k:Nat} (h:ls.all p=true) (hk:k<ls.length):p (ls.getD k ByteArray.empty)=true:=by
 rw [sgetD_lt hk];exact List.all_eq_true.1 h _ (List.getElem_mem hk)
def zOk (es:List (Bool × ByteArray)):Prop:=∀ e∈es,valid e.2=true∧(e.1&&e.2.toList.isEmpty)=false
theorem zOk.at_ {es:List (Bool × ByteArray)} (h:zOk es) {k:Nat} (hk:k<es.length):valid (es.getD k z0).2=true∧((es.getD k z0).1&&(es.getD k z0).2.toList.isEmpty)=false:=by
 have e:es.getD k z0=es[k]:=by rw [List.getD_eq_getElem?_getD,List.getElem?_eq_getElem hk];rfl
 rw [e];exact h _ (List.getElem_mem hk)
structure PwAt (w:World) (m o:ByteArray) (A1 A2:Option Addr) (rs:List ByteArray) (es:List (Bool × ByteArray)) (W:World):Prop where
 c0:W.cell? ⟨w.heap.size,0,none⟩=some (.string m)
 c1:W.cell? ⟨w.heap.size,1,none⟩=some (.string o)
 r1:SLs W w.heap.size A1 rs
 r2:ZLs W w.heap.size A2 es
 sz:w.heap.size<W.heap.size
 bel:Below w.heap.size w W
theorem PwAt.next {w:World} {m o:ByteArray} {A1 A2:Option Addr} {rs:List ByteArray} {es:List (Bool × ByteArray)} {W W':World} (h:PwAt w m o A1 A2 rs es W) (hb:Below W.heap.size W W'):PwAt w m o A1 A2 rs es W' :=
 ⟨(hb.cell (p:=⟨w.heap.size,0,none⟩) h.sz).trans h.c0,(hb.cell (p:=⟨w.heap.size,1,none⟩) h.sz).trans h.c1,h.r1.below (hb.mono h.bel.size),h.r2.below (hb.mono h.bel.size),Nat.lt_of_lt_of_le h.sz hb.size,h.bel.trans (hb.mono h.bel.size)⟩
theorem PwAt.start {w:World} {m o:ByteArray} {A1 A2:Option Addr} {rs:List ByteArray} {es:List (Bool × ByteArray)} (T:TypeId) (h1:SLs w w.heap.size A1 rs) (h2:ZLs w w.heap.size A2 es):PwAt w m o A1 A2 rs es (w.alloc (.cells #[.string m,.string o] T)):=by
 have hb:Below w.heap.size w (w.alloc (.cells #[.string m,.string o] T)):=(Below.refl _ _).alloc (Nat.le_refl _) _;exact ⟨by simp [go_sem],by simp [go_sem],h1.below hb,h2.below hb,by simp,hb⟩
theorem power_checkedN (m o:ByteArray) (rs:List ByteArray) (es:List (Bool × ByteArray)) (A1 A2:Option Addr) (n1 n2 c1 c2:Nat) (w:World) (sm:m.size≤8) (hg:groupE m o=0) (hrs:rs.all (hasG m o)=true) (hes:zOk es)
  (hn1:rs.length=n1) (hn2:es.length=n2) (hm1:n1≤1000) (hm2:n2≤1000) (h1:SLs w w.heap.size A1 rs) (h2:ZLs w w.heap.size A2 es) :
  Calls Tryz.prog 87 #[.agg #[.string m,.string o],.slice A1 n1 c1,.slice A2 n2 c2,.bool true] w fun r w'=>r=.returned (.int .i64 0)∧Below w.heap.size w w':=by
 have HS:=Lib.hid (PwAt.start (m:=m) (o:=o) 26 h1 h2);have HN1:=Lib.hid hn1;have HN2:=Lib.hid hn2;have HR:=Lib.hid hrs;have HE:=Lib.hid hes;have hck:=fun w=>power_Check m o w sm
 rw [hg] at hck;have HCK:=Lib.hid hck;have HHA:=Lib.hid (fun x w=>power_has m o x w sm);have HVI:=Lib.hid (fun s x w=>integer_Valid s x w);have HVN:=Lib.hid (fun x w=>natural_Valid x w);have HSM:=Lib.hid sm;obtain ⟨W0,hW0⟩:∃ W0,w.alloc (.cells #[.string m,.string o] 26)=W0:=⟨_,rfl⟩;rw [hW0] at HS;clear hg hrs hes hn1 hn2 h1 h2 hck sm
 go_enter Tryz.func87, Tryz.ntmps87
 go_wp2;go_loop [18] (fun i=>∃ k:Nat,k≤n1∧i=.int .i64 k) (fun i=>n1-(intOf i).toNat)
 case atStart=>exact ⟨0,Nat.zero_le _,rfl⟩
 case round =>
  obtain ⟨k,hk,rfl⟩:=hrel;by_cases hlt:k<n1
  · obtain ⟨ad,rfl,hc⟩:=HS.out.r1.at_ (k:=k) (by rw [HN1.out];exact hlt)
    have hx:=al_at HR.out (k:=k) (by rw [HN1.out];exact hlt);obtain ⟨x,hxx⟩:∃ x,rs.getD k ByteArray.empty=x:=⟨_,rfl⟩;rw [hxx] at hc hx;have hv:=(hasG_lt HSM.out hx).1;have KV:=HVN.out x;rw [hv] at KV;have KVx:=Lib.hid KV;clear hxx hx hv KV;go_wp2_with (go_at_call 46;(with_reducible refine (KVx.out _).mono ?_);rintro e w' ⟨rfl,rfl⟩);go_round
    case rel=>exact ⟨k+1,by omega,by go_num⟩
    case measure=>simp [intOf];omega
  · obtain rfl:k=n1:=by omega
    go_wp2;go_loopw [28] (fun i wr=>∃ j:Nat,j≤n2∧i=.int .i64 j∧PwAt w m o A1 A2 rs es wr) (fun i _=>n2-(intOf i).toNat)
    case atStart=>exact ⟨0,Nat.zero_le _,rfl,HS.out⟩
    case round =>
     obtain ⟨j,hj,rfl,hp⟩:=hrel;have HP:=Lib.hid hp;clear hp;by_cases hlj:j<n2
     · obtain ⟨g,rfl,hgl,hc1,hc2⟩:=HP.out.r2.at_ (k:=j) (by rw [HN2.out];exact hlj)
       obtain ⟨vx,vn⟩:=HE.out.at_ (k:=j) (by rw [HN2.out];exact hlj);obtain ⟨s,hs⟩:∃ s,(es.getD j z0).1=s:=⟨_,rfl⟩;obtain ⟨x,hx⟩:∃ x,(es.getD j z0).2=x:=⟨_,rfl⟩;rw [hs] at hc1 vn;rw [hx] at hc2 vx vn;have KV:=HVI.out s x;rw [vx,vn] at KV;have KVx:=Lib.hid KV;have hgw:g<wr.heap.size:=Nat.lt_of_lt_of_le hgl HP.out.bel.size;clear hs hx vx vn KV
       go_wp2_with (go_at_call 137;(with_reducible refine (KVx.out _).mono ?_);rintro e w5 ⟨rfl,hb5⟩
                    have HP5:=Lib.hid ((HP.out.next ((Below.refl _ _).alloc (Nat.le_refl _) (.cells #[.bool s,.string x] 88))).next hb5)
                    clear hb5)
       go_roundw
       case rel=>exact ⟨j+1,by omega,by go_num,HP5.out⟩
       case measure=>simp [intOf];omega
     · obtain rfl:j=n2:=by omega
       obtain ⟨k0,k1,_,_,_,_⟩:=HP.out
       go_wp2_with (go_at_call 81;(with_reducible refine (HCK.out _).mono ?_);rintro e w6 ⟨rfl,hb6⟩
                    have HP6:=Lib.hid (HP.out.next hb6)
                    clear hb6)
       go_loopw [45] (fun i wr=>∃ j:Nat,j≤k∧i=.int .i64 j∧PwAt w m o A1 A2 rs es wr) (fun i _=>k-(intOf i).toNat)
       case atStart=>exact ⟨0,Nat.zero_le _,rfl,HP6.out⟩
       case round =>
        obtain ⟨j,hj,rfl,hp⟩:=hrel;have HPr:=Lib.hid hp;clear hp;by_cases hlj:j<k
        · obtain ⟨ad,rfl,hc⟩:=HPr.out.r1.at_ (k:=j) (by rw [HN1.out];exact hlj)
          have hx:=al_at HR.out (k:=j) (by rw [HN1.out];exact hlj);obtain ⟨x,hxx⟩:∃ x,rs.getD j ByteArray.empty=x:=⟨_,rfl⟩;rw [hxx] at hc hx;have KH:=HHA.out x;rw [hx] at KH;have KHx:=Lib.hid KH;obtain ⟨k0,k1,_,_,_,_⟩:=HPr.out;clear hxx hx KH
          go_wp2_with (go_at_call 101;(with_reducible refine (KHx.out _).mono ?_);rintro e w7 ⟨rfl,hb7⟩
                       have HP7:=Lib.hid (HPr.out.next hb7)
                       clear hb7)
          go_roundw
          case rel=>exact ⟨j+1,by omega,by go_num,HP7.out⟩
          case measure=>simp [intOf];omega
        · obtain rfl:j=k:=by omega
          go_wp2;go_ret;exact ⟨rfl,HPr.out.bel⟩
theorem cell_inK {W:World} {a:Addr} {v:Value} (h:W.cell? a=some v):a.block<W.heap.size:=by
 rcases Nat.lt_or_ge a.block W.heap.size with h1|h1
 · exact h1
 · unfold World.cell? at h
   rw [Array.getElem?_eq_none h1] at h;simp at h
def RwN (W:World) (g:Nat) (L:List Nat):Prop:=∀ j,j<L.length→W.cell? ⟨g,j,none⟩=some (.string (B (L.getD j 0)))∧W.frozen? ⟨g,j,none⟩=false
section
variable {W W':World} {g:Nat} {L:List Nat}
theorem RwN.next (h:RwN W g L) (hb:Below W.heap.size W W'):RwN W' g L :=
 fun j hj=>⟨(hb.cell (p:=⟨g,j,none⟩) (cell_inK (h j hj).1)).trans (h j hj).1,(hb.frozen (p:=⟨g,j,none⟩) (cell_inK (h j hj).1)).trans (h j hj).2⟩
theorem RwN.far (h:RwN W g L) {p:Addr} (hp:p.block≠g) (v:Value):RwN (W.setCell p v) g L :=
 fun j hj=>⟨(World.cell?_setCell_other W p _ v (fun e=>hp (by rw [e]))).trans (h j hj).1,(World.frozen?_setCell _ _ _ _).trans (h j hj).2⟩
theorem RwN.set (h:RwN W g L) {k v:Nat} (hk:k<L.length):RwN (W.setCell ⟨g,k,none⟩ (.string (B v))) g (L.set k v):=by
 intro j hj;rw [List.length_set] at hj;refine ⟨?_,(World.frozen?_setCell _ _ _ _).trans (h j hj).2⟩;by_cases e:j=k
 · subst e
   rw [World.cell?_setCell_same _ _ _ (h j hj).1];simp [List.getD_eq_getElem?_getD,hj]
 · refine (World.cell?_setCell_other _ _ _ _ (by first|(simp;done)|(simp;omega))).trans ?_
   rw [(h j hj).1];simp [List.getD_eq_getElem?_getD,Ne.symm e]
theorem RwN.made (W:World) (n:Nat) (T:TypeId):RwN (W.alloc (.cells (List.replicate n (Value.string ByteArray.empty)).toArray T)) W.heap.size (List.replicate n 0):=by
 intro j hj;rw [List.length_replicate] at hj;have h:=heap_alloc_new W (.cells (List.replicate n (Value.string ByteArray.empty)).toArray T)
 constructor
 · simp only [World.cell?,h]
   simp [List.getD_eq_getElem?_getD,hj];rfl
 · simp [go_sem]
end
theorem mdCells_strs (n:Nat):madeCells #[Value.string ByteArray.empty] n=(List.replicate n (Value.string ByteArray.empty)).toArray:=by
 apply Array.ext
 · simp [madeCells]
 · intro i h1 h2
   simp [madeCells,Nat.mod_one]
theorem mk_strs (n:Nat) (h:n≤1000000) (w:World):(Instr.makeSlice 31 (.int .i64 (n:Int)) (.int .i64 (n:Int))).run Tryz.prog w =
  .ok (.slice (some ⟨w.heap.size,0,none⟩) n n) (w.alloc (.cells (List.replicate n (Value.string ByteArray.empty)).toArray 22)):=by
 rw [← mdCells_strs];exact run_make_row' 31 22 (.string ByteArray.empty) 16 Tryz.underlying31 nat_info rfl .i64 .i64 n (by omega) (by omega) w
def bvN (M:Nat) (rs:List ByteArray) (es:List (Bool × ByteArray)) (j:Nat):Nat:=if (es.getD j z0).1=true then invM (num (rs.getD j ByteArray.empty)) M else num (rs.getD j ByteArray.empty)
def zipB (M:Nat) (rs:List ByteArray) (es:List (Bool × ByteArray)):List (Nat × Nat):=(List.range rs.length).map fun j=>(bvN M rs es j,num (es.getD j z0).2)
theorem zipB_length (M:Nat) (rs:List ByteArray) (es:List (Bool × ByteArray)):(zipB M rs es).length=rs.length:=by simp [zipB]
theorem zipB_getD {M:Nat} {rs:List ByteArray} {es:List (Bool × ByteArray)} {k:Nat} (hk:k<rs.length):(zipB M rs es).getD k (0,0)=(bvN M rs es k,num (es.getD k z0).2):=by
 rw [List.getD_eq_getElem?_getD,List.getElem?_eq_getElem (by rw [zipB_length];exact hk)];simp [zipB]
theorem modular_Inverse_ok (s q:Nat) (w:World) (hs:s<18446744073709551616) (hq:q<18446744073709551616) (h2:2≤q) (h1:Nat.gcd s q=1) :
  Calls Tryz.prog 88 #[.string (B s),.string (B q)] w fun e w'=>e=.returned (.tuple #[.string (B (invM s q)),.int .i64 0])∧Below w.heap.size w w':=by
 have hc:=fun T1 T2=>modular_check11 (B s) (B q) T1 T2 w
 rw [checkErr11 (u64_lt_lim hs) (u64_lt_lim hq) (by omega)] at hc;have HC:=Lib.hid hc;have K1:=Lib.hid (fun w=>modular_reduced s q w hs hq (by omega));have K2:=Lib.hid (fun w=>integer_Extended (s%q) q w (Nat.lt_trans (Nat.mod_lt _ (by omega)) hq) hq (by omega));have HI:∀ X Y:Int,0≤X→((s%q:Nat):Int)*X+q*Y=1→invM s q=X.natAbs%q:=fun X Y h1 h=>invM_ext h2 h1 h
 have hG:Nat.gcd (s%q) q=1:=by rw [← Nat.gcd_rec,Nat.gcd_comm];exact h1
 generalize s%q=a at K1 K2 HI hG;have HI:=Lib.hid HI;have HQ:=Lib.hid (And.intro hq h2);rw [hG] at K2;have k1:((B 1).toList==[1])=true:=by rw [B_beq1];rfl
 clear hc hs hq h2 hG h1
 go_enter Tryz.func88, Tryz.ntmps88
 go_wp2_with (first
  | (go_at_call 138;refine (HC.out _ _).mono ?_;rintro e w1 ⟨rfl,hb1⟩;have HB1:=Lib.hid hb1;clear hb1)
  | (go_at_call 140;(with_reducible refine (K1.out _).mono ?_);rintro e w2 ⟨rfl,hb2⟩;have HB2:=Lib.hid (below2 HB1.out hb2);clear hb2)
  | (go_at_call 139;(with_reducible refine (K2.out _).mono ?_);rintro e w3 ⟨⟨X,Y,rfl,hX,hXY,hXb⟩,hb3⟩
     have HB3:=Lib.hid (below2 HB2.out hb3);have HR:=Lib.hid (HI.out X Y hX (by rw [hXY];rfl));have K3:=Lib.hid (fun w=>modular_reduced X.natAbs q w (Nat.lt_of_le_of_lt hXb HQ.out.1) HQ.out.1 (by have:=HQ.out.2;omega));rw [← HR.out] at K3;clear hb3 hX hXY hXb
     unfold iz)
  | (go_at_call 140;(with_reducible refine (K3.out _).mono ?_);rintro e w4 ⟨rfl,hb4⟩;have HB4:=Lib.hid (below2 ((HB3.out.alloc HB3.out.size _).alloc (by have:=HB3.out.size;simp;omega) _) hb4);clear hb4))
 go_ret2;exact ⟨rfl,HB4.out⟩
theorem invM_lo {s q:Nat} (h:2≤q):invM s q<q:=by
 unfold invM
 cases hf:(List.range q).find? (fun x=>s*x%q==1%q) with
 | none=>simp;omega
 | some x=>have:=List.mem_of_find?_eq_some hf;simpa using this
structure PrAt (w:World) (M:Nat) (A2:Option Addr) (es:List (Bool × ByteArray)) (g O:Nat) (L:List Nat) (y:Nat) (W:World):Prop where
 c0:W.cell? ⟨w.heap.size,0,none⟩=some (.string (B M))
 r2:ZLs W w.heap.size A2 es
 row:RwN W g L
 co:W.cell? ⟨O,0,none⟩=some (.string (B y))
 fo:W.frozen? ⟨O,0,none⟩=false
 lg:g<O
 lw:w.heap.size<O
 lo:O<W.heap.size
 bel:Below w.heap.size w W
theorem PrAt.step {w W W1 W':World} {M g O y x:Nat} {A2:Option Addr} {es:List (Bool × ByteArray)} {L:List Nat} (h:PrAt w M A2 es g O L y W) (hb:Below W.heap.size W W1) (hw:W'=W1.setCell ⟨O,0,none⟩ (.string (B x))):PrAt w M A2 es g O L x W':=by
 subst hw;have l1:=h.lg;have l2:=h.lw;have l3:=h.lo;have hb1:Below w.heap.size w W1:=h.bel.trans (hb.mono h.bel.size);refine ⟨?_,?_,(h.row.next hb).far (by show O≠g;omega) _,?_,?_,l1,l2,by simp;exact Nat.lt_of_lt_of_le l3 hb.size,hb1.setCell (p:=⟨O,0,none⟩) (by show w.heap.size≤O;omega) _⟩
 · exact (World.cell?_setCell_other _ _ _ _ (by intro e;injection e;omega)).trans ((hb.cell (p:=⟨w.heap.size,0,none⟩) (by show w.heap.size<_;omega)).trans h.c0)
 · intro hne
   obtain ⟨g2,e,hg,hc⟩:=(h.r2.below (hb.mono h.bel.size)) hne;exact ⟨g2,e,hg,fun j hj=>⟨(World.cell?_setCell_other _ _ _ _ (by intro e;injection e;omega)).trans (hc j hj).1,(World.cell?_setCell_other _ _ _ _ (by intro e;injection e;omega)).trans (hc j hj).2⟩⟩
 · exact World.cell?_setCell_same _ _ _ ((hb.cell (p:=⟨O,0,none⟩) l3).trans h.co)
 · rw [World.frozen?_setCell];exact (hb.frozen (p:=⟨O,0,none⟩) l3).trans h.fo
theorem PrAt.times {w W:World} {M g O y:Nat} {A2:Option Addr} {es:List (Bool × ByteArray)} {L:List Nat} (h:PrAt w M A2 es g O L y W):TimesAt W O w.heap.size y (B M) :=
 ⟨h.co,h.fo,h.c0,h.lo,Nat.lt_trans h.lw h.lo⟩
theorem groupE_vm {m o:ByteArray} (hg:groupE m o=0):valid m=true:=by
 unfold groupE at hg
 split at hg
 · rename_i h;exact (Bool.and_eq_true_iff.1 h).1
 · cases hg
theorem PwAt.put {w:World} {m o:ByteArray} {A1 A2:Option Addr} {rs:List ByteArray} {es:List (Bool × ByteArray)} {W:World} (h:PwAt w m o A1 A2 rs es W) {p:Addr} (hp:w.heap.size<p.block) (v:Value):PwAt w m o A1 A2 rs es (W.setCell p v):=by
 have hne:∀ (b j:Nat),b≤w.heap.size→(⟨b,j,none⟩:Addr)≠p:=fun b j hb e=>by rw [← e] at hp;simp at hp;omega
 refine ⟨(World.cell?_setCell_other _ _ _ _ (Ne.symm (hne _ 0 (Nat.le_refl _)))).trans h.c0,(World.cell?_setCell_other _ _ _ _ (Ne.symm (hne _ 1 (Nat.le_refl _)))).trans h.c1,?_,?_,by simpa using h.sz,h.bel.setCell (by omega) _⟩
 · intro hn
   obtain ⟨ad,e,hb,hc⟩:=h.r1 hn;refine ⟨ad,e,hb,fun j hj=>(World.cell?_setCell_other _ _ _ _ (fun e2=>?_)).trans (hc j hj)⟩;rw [e2,block_of_add] at hp;omega
 · intro hn
   obtain ⟨g2,e,hg,hc⟩:=h.r2 hn;exact ⟨g2,e,hg,fun j hj=>⟨(World.cell?_setCell_other _ _ _ _ (Ne.symm (hne g2 _ (by omega)))).trans (hc j hj).1,(World.cell?_setCell_other _ _ _ _ (Ne.symm (hne g2 _ (by omega)))).trans (hc j hj).2⟩⟩
structure P1At (w:World) (M:Nat) (o:ByteArray) (A1 A2:Option Addr) (rs:List ByteArray) (es:List (Bool × ByteArray)) (g n k mx:Nat) (L:List Nat) (W:World):Prop where
 pw:PwAt w (B M) o A1 A2 rs es W
 row:RwN W g L
 len:L.length=n
 done:∀ j,j<k→L.getD j 0=bvN M rs es j
 bits:∀ j,j<k→natBits (es.getD j z0).2≤mx
 mxl:mx≤1024
 lg:w.heap.size<g
 gl:g<W.heap.size
theorem P1At.put {w:World} {M:Nat} {o:ByteArray} {A1 A2:Option Addr} {rs:List ByteArray} {es:List (Bool × ByteArray)} {g n k mx:Nat} {L:List Nat} {W:World} (h:P1At w M o A1 A2 rs es g n k mx L W) (hk:k<n) (v:Nat) :
  P1At w M o A1 A2 rs es g n k mx (L.set k v) (W.setCell ⟨g,k,none⟩ (.string (B v))) :=
 ⟨h.pw.put (by exact h.lg) _,h.row.set (by rw [h.len];exact hk),by rw [List.length_set];exact h.len,fun j hj=>by
  rw [← h.done j hj,List.getD_eq_getElem?_getD,List.getD_eq_getElem?_getD,List.getElem?_set_ne (by omega)],h.bits,h.mxl,h.lg,by simpa using h.gl⟩
theorem P1At.next {w:World} {M:Nat} {o:ByteArray} {A1 A2:Option Addr} {rs:List ByteArray} {es:List (Bool × ByteArray)} {g n k mx:Nat} {L:List Nat} {W W':World} (h:P1At w M o A1 A2 rs es g n k mx L W) (hb:Below W.heap.size W W'):P1At w M o A1 A2 rs es g n k mx L W' :=
 ⟨h.pw.next hb,h.row.next hb,h.len,h.done,h.bits,h.mxl,h.lg,Nat.lt_of_lt_of_le h.gl hb.size⟩
theorem P1At.up {w:World} {M:Nat} {o:ByteArray} {A1 A2:Option Addr} {rs:List ByteArray} {es:List (Bool × ByteArray)} {g n k mx v:Nat} {L:List Nat} {W:World} (h:P1At w M o A1 A2 rs es g n k mx (L.set k v) W) (hk:k<n) (hv:v=bvN M rs es k) (hx:valid (es.getD k z0).2=true) :
  P1At w M o A1 A2 rs es g n (k+1) (max mx (natBits (es.getD k z0).2)) (L.set k v) W :=
 ⟨h.pw,h.row,h.len,fun j hj=>by
  rcases Nat.lt_or_ge j k with h1|h1
  · exact h.done j h1
  · obtain rfl:j=k:=by omega
    have hl:=h.len;rw [List.length_set] at hl;rw [List.getD_eq_getElem?_getD,List.getElem?_set_self (by omega)];exact hv,fun j hj=>by
  rcases Nat.lt_or_ge j k with h1|h1
  · exact Nat.le_trans (h.bits j h1) (Nat.le_max_left _ _)
  · obtain rfl:j=k:=by omega
    exact Nat.le_max_right _ _,Nat.max_le.2 ⟨h.mxl,natBits_le hx⟩,h.lg,h.gl⟩
theorem P1At.made {w W:World} {M:Nat} {o:ByteArray} {A1 A2:Option Addr} {rs:List ByteArray} {es:List (Bool × ByteArray)} (n:Nat) (h:PwAt w (B M) o A1 A2 rs es W) :
  P1At w M o A1 A2 rs es W.heap.size n 0 0 (List.replicate n 0) (W.alloc (.cells (Array.replicate n (Value.string ByteArray.empty)) 22)):=by
 have hr:=RwN.made W n 22;rw [List.toArray_replicate] at hr;exact ⟨h.next ((Below.refl _ _).alloc (Nat.le_refl _) _),hr,by simp,fun j hj=>absurd hj (Nat.not_lt_zero j),fun j hj=>absurd hj (Nat.not_lt_zero j),by omega,h.sz,by simp⟩
theorem max_val (a b:Nat):Value.int .i64 (max (a:Int) (b:Int))=.int .i64 ((max a b:Nat):Int):=by
 have:max (a:Int) (b:Int)=((max a b:Nat):Int):=by omega
 rw [this]
theorem zipB_bits {M mx:Nat} {rs:List ByteArray} {es:List (Bool × ByteArray)} (h:∀ j,j<rs.length→natBits (es.getD j z0).2≤mx) (hes:zOk es) (hl:rs.length=es.length):∀ p∈zipB M rs es,p.2<2^mx:=by
 intro p hp;unfold zipB at hp;rw [List.mem_map] at hp;obtain ⟨j,hj,rfl⟩:=hp;rw [List.mem_range] at hj;have h1:=h j hj;have hv:=(hes.at_ (k:=j) (by omega)).1;unfold natBits at h1;rw [hv] at h1;exact Nat.lt_of_lt_of_le (lt_pow_bitsN' _) (Nat.pow_le_pow_right (by decide) h1)
theorem natBit_of {a:ByteArray} {i:Nat} (hv:valid a=true):(natBit a i=true↔num a/2^i%2=1):=by
 unfold natBit;rw [hv];simp
theorem power_ProductN (m o:ByteArray) (rs:List ByteArray) (es:List (Bool × ByteArray)) (A1 A2:Option Addr) (n c1 c2:Nat) (w:World) (sm:m.size≤8) (hg:groupE m o=0) (hrs:rs.all (hasG m o)=true) (hes:zOk es) (hinv:∀ r∈rs,Nat.gcd (num r) (num m)=1)
  (hn1:rs.length=n) (hn2:es.length=n) (hm:n≤1000) (h2M:2≤num m) (h1:SLs w w.heap.size A1 rs) (h2:ZLs w w.heap.size A2 es) :
  Calls Tryz.prog 37 #[.agg #[.string m,.string o],.slice A1 n c1,.slice A2 n c2] w fun r w'=>r=.returned (.tuple #[.string (B (pwE (zipB (num m) rs es)%num m)),.int .i64 0])∧Below w.heap.size w w':=by
 have HS:=Lib.hid (PwAt.start (m:=m) (o:=o) 26 h1 h2);have HCK:=Lib.hid (fun wq (h:PwAt w m o A1 A2 rs es wq)=>power_checkedN m o rs es A1 A2 n n c1 c2 wq sm hg hrs hes hn1 hn2 hm hm (h.r1.more h.bel.size) (h.r2.more h.bel.size));have hvm:valid m=true:=groupE_vm hg;have hM:num m<18446744073709551616:=u64_of_size sm;have em:=B_num hvm;obtain ⟨M,hMM⟩:∃ M,num m=M:=⟨_,rfl⟩;rw [hMM] at hM h2M em hinv ⊢;subst em;have HN1:=Lib.hid hn1;have HN2:=Lib.hid hn2;have HR:=Lib.hid hrs;have HE:=Lib.hid hes;have HM:=Lib.hid hM;have H2M:=Lib.hid h2M;have HINV:=Lib.hid hinv;have HSM:=Lib.hid sm;have hmk:∀ w,(Instr.makeSlice 31 (.int .i64 n) (.int .i64 n)).run Tryz.prog w=.ok (.slice (some ⟨w.heap.size,0,none⟩) n n) (w.alloc (.cells (List.replicate n (Value.string ByteArray.empty)).toArray 22)):=fun w=>mk_strs n (by omega) w
 have HBITS:=Lib.hid (fun x w=>natural_Bits x w);have HBIT:=Lib.hid (fun (a:ByteArray) (z:Int) (i:Nat) (w:World) (hz:z=i) (hi:i≤100000) (sa:a.size≤100000)=>natural_Bit a z i w hz hi sa);have HTM:=Lib.hid (fun O G x y w (hy:y<M) (hx:x<M) hat=>power_times O G x y M w (Nat.lt_trans hy hM) (Nat.lt_trans hx hM) hM (by omega) hat);obtain ⟨W0,hW0⟩:∃ W0,w.alloc (.cells #[.string (B M),.string o] 26)=W0:=⟨_,rfl⟩;rw [hW0] at HS;have p0:((n:Int)==(n:Int))=true:=by simp
 obtain ⟨L2,hLD⟩:∃ L2,L2=zipB M rs es:=⟨_,rfl⟩;rw [← hLD];have HLD:=Lib.hid hLD;clear hg hrs hes hinv hn1 hn2 h1 h2 sm hM h2M hMM hvm hLD
 go_enter Tryz.func37, Tryz.ntmps37
 obtain ⟨k0,k1,_,_,_,_⟩:=HS.out;go_wp2_with (go_at_call 87;(with_reducible refine (HCK.out _ HS.out).mono ?_);rintro e w1 ⟨rfl,hb1⟩;have HS1:=Lib.hid (HS.out.next hb1);clear hb1);have HP0:=Lib.hid (P1At.made n HS1.out);obtain ⟨g,hgg⟩:∃ g,w1.heap.size=g:=⟨_,rfl⟩;rw [hgg] at HP0 ⊢;clear hgg k0 k1 hmk;go_loopw [10,37] (fun mv i wr=>∃ (k mx:Nat) (L:List Nat),i=.int .i64 k∧k≤n∧mv=.int .i64 mx∧P1At w M o A1 A2 rs es g n k mx L wr) (fun _ i _=>n-(intOf i).toNat)
 case atStart=>exact ⟨0,0,_,rfl,Nat.zero_le _,rfl,HP0.out⟩
 case round =>
  obtain ⟨k,mx,L,rfl,hk,rfl,hp⟩:=hrel;have HP:=Lib.hid hp;clear hp;by_cases hlt:k<n
  · obtain ⟨ad,rfl,hc⟩:=HP.out.pw.r1.at_ (k:=k) (by rw [HN1.out];exact hlt)
    obtain ⟨g2,rfl,hg2,hz1,hz2⟩:=HP.out.pw.r2.at_ (k:=k) (by rw [HN2.out];exact hlt);obtain ⟨vx,_⟩:=HE.out.at_ (k:=k) (by rw [HN2.out];exact hlt);have hx:=al_at HR.out (k:=k) (by rw [HN1.out];exact hlt);have hxl:=hasG_lt HSM.out hx;have hxg:Nat.gcd (num (rs.getD k ByteArray.empty)) M=1:=HINV.out _ (by rw [sgetD_lt (by rw [HN1.out];exact hlt)];exact List.getElem_mem _);have hBV:Hid (bvN M rs es k=if (es.getD k z0).1=true then invM (num (rs.getD k ByteArray.empty)) M else num (rs.getD k ByteArray.empty)):=Lib.hid rfl;obtain ⟨ed,hed⟩:∃ ed,natBits (es.getD k z0).2=ed:=⟨_,rfl⟩;have HED:=Lib.hid hed;have HVX:=Lib.hid vx;have KB:=HBITS.out (es.getD k z0).2;rw [hed] at KB;have hel:=natBits_le vx;rw [hed] at hel;obtain ⟨sb,hsb⟩:∃ sb,(es.getD k z0).1=sb:=⟨_,rfl⟩;obtain ⟨ex,hex⟩:∃ ex,(es.getD k z0).2=ex:=⟨_,rfl⟩;have HEX:=Lib.hid hex;rw [hex] at KB hz2;rw [hsb] at hz1 hBV;obtain ⟨X,hX⟩:∃ X,num (rs.getD k ByteArray.empty)=X:=⟨_,rfl⟩;have eX:=B_num hxl.1;rw [hX] at hBV hxg eX hxl;rw [← eX] at hc;have hX64:X<18446744073709551616:=by have:=hxl.2.2;rw [num_B] at this;omega
    have KI:=fun w=>modular_Inverse_ok X M w hX64 HM.out H2M.out hxg
    have KBx:=Lib.hid KB;have KIx:=Lib.hid KI;have HLT:=Lib.hid hlt;have HMX:=Lib.hid HP.out.mxl;obtain ⟨hl1,hl2⟩:=HP.out.row k (by rw [HP.out.len];exact hlt);have hlg:w.heap.size<g:=HP.out.lg;have ne1:¬ g2=g:=by omega
    have ne2:¬ w.heap.size=g:=by omega
    have ne3:¬ g=g2:=by omega
    have ne4:¬ g=w.heap.size:=by omega
    have HNE:=Lib.hid (And.intro ne1 ne2);have hmv:=max_val mx ed;have hMXV:=Lib.hid hmv;have pP1:=Lib.hid (HP.out.put hlt X);clear hed hex hsb hX eX hxl hxg vx hx hX64 KI KB hel hlg
    cases sb
    · have hbv:bvN M rs es k=X:=by have:=hBV.out;simpa using this
      have HBV:=Lib.hid hbv;clear hbv hBV;go_wp2_with (go_at_call 89;(with_reducible refine (KBx.out _).mono ?_);rintro e w5 ⟨rfl,rfl⟩);go_roundw
      case rel=>exact ⟨k+1,max mx ed,L.set k X,rfl,HLT.out,rfl,by have:=pP1.out.up HLT.out HBV.out.symm HVX.out;rwa [HED.out] at this⟩
      case measure=>have:=HLT.out;simp [intOf];omega
    · have hbv:bvN M rs es k=invM X M:=by have:=hBV.out;simpa using this
      have HBV:=Lib.hid hbv;have HZ2:Hid ((wr.setCell ⟨g,k,none⟩ (.string (B X))).cell? ⟨g2,k*2+1,none⟩=some (.string ex)):=Lib.hid ((World.cell?_setCell_other _ _ _ _ (by intro e;injection e with e1 e2;exact HNE.out.1 e1.symm)).trans hz2);have hc0:=pP1.out.pw.c0;clear hbv hBV
      go_wp2_with (first
       | (go_at_call 89;(with_reducible refine (KBx.out _).mono ?_);rintro e w6 ⟨rfl,rfl⟩)
       | (go_at_call 88;(with_reducible refine (KIx.out _).mono ?_);rintro e w5 ⟨rfl,hb5⟩
          have HP5:=Lib.hid (pP1.out.next hb5);have hz5:=(hb5.cell (p:=⟨g2,k*2+1,none⟩) (cell_inK HZ2.out)).trans HZ2.out;obtain ⟨hl5,hf5⟩:=HP5.out.row k (by rw [HP5.out.len];exact HLT.out)
          clear hb5))
      have HP6:=Lib.hid (HP5.out.put HLT.out (invM X M));rw [List.set_set] at HP6;go_roundw
      case rel=>exact ⟨k+1,max mx ed,L.set k (invM X M),rfl,HLT.out,rfl,by have:=HP6.out.up HLT.out HBV.out.symm HVX.out;rwa [HED.out] at this⟩
      case measure=>have:=HLT.out;simp [intOf];omega
  · obtain rfl:k=n:=by omega
    clear hk hlt;have KO1:=Lib.hid (fun w=>natural_Of' 1 1 w rfl (by decide));have hmx:=HP.out.mxl;have HLEN:=Lib.hid HP.out.len;have HDONE:=Lib.hid HP.out.done;have HUP:=Lib.hid (zipB_bits (M:=M) (fun j hj=>HP.out.bits j (by rw [← HN1.out];exact hj)) HE.out (HN1.out.trans HN2.out.symm));go_wp2_with (go_at_call 17;(with_reducible refine (KO1.out _).mono ?_);rintro e w2 ⟨rfl,hb2⟩);have hL2:=HLD.out;have HLL:Hid (L2.length=k):=Lib.hid (by rw [hL2,zipB_length];exact HN1.out);have HL1:Hid (∀ j,j<k→(L2.getD j (0,0)).1=L.getD j 0):=Lib.hid (fun j hj=>by rw [HDONE.out j hj,hL2,zipB_getD (by rw [HN1.out];exact hj)]);have HL2:Hid (∀ j,j<k→(L2.getD j (0,0)).2=num (es.getD j z0).2):=Lib.hid (fun j hj=>by rw [hL2,zipB_getD (by rw [HN1.out];exact hj)])
    have HXM:Hid (∀ j,j<k→L.getD j 0<M):=Lib.hid (fun j hj=>by
     rw [HDONE.out j hj];unfold bvN
     split
     · exact invM_lo H2M.out
     · have hx:=al_at HR.out (k:=j) (by rw [HN1.out];exact hj)
       have:=(hasG_lt HSM.out hx).2.2.1
       rwa [num_B] at this)
    rw [← hL2] at HUP;have HY0:Hid (1=pwE (upE mx L2)%M):=Lib.hid (by rw [upE_none HUP.out,Nat.mod_eq_of_lt (by have:=H2M.out;omega)])
    have hP0:PrAt w M A2 es g w2.heap.size L 1 (w2.alloc (.cells #[.string (B 1)] 22)):=by
     have hp:=(HP.out.next hb2);have bW:Below w2.heap.size w2 (w2.alloc (.cells #[.string (B 1)] 22)):=(Below.refl _ _).alloc (Nat.le_refl _) _;have hp2:=hp.next bW;exact ⟨hp2.pw.c0,hp2.pw.r2,hp2.row,by simp [go_sem],by simp [go_sem],hp.gl,hp.pw.sz,by simp,hp2.pw.bel⟩
    have HPR0:=Lib.hid hP0;obtain ⟨O,hO⟩:∃ O,w2.heap.size=O:=⟨_,rfl⟩;obtain ⟨W2,hW2⟩:∃ W2,w2.alloc (.cells #[.string (B 1)] 22)=W2:=⟨_,rfl⟩;rw [hO,hW2] at HPR0;rw [hO,hW2];clear hW2 hO hP0 hL2 hb2 HP HP0 HDONE HUP HINV HBITS HS HS1 HCK;go_loopw [17] (fun v wr=>∃ (t y:Nat) (z:Int),v=.int .i64 z∧z=(mx:Int)-1-t∧t≤mx∧y=pwE (upE (mx-t) L2)%M∧PrAt w M A2 es g O L y wr) (fun v _=>(intOf v+1).toNat)
    case atStart=>exact ⟨0,1,(mx:Int)-1,rfl,by omega,by omega,HY0.out,HPR0.out⟩
    case round =>
     obtain ⟨t,y,z,rfl,hz,ht,hy,hP⟩:=hrel;have HP:=Lib.hid hP;have HZ:=Lib.hid hz;have HY:=Lib.hid hy;have hym:y<M:=by rw [hy];exact Nat.mod_lt _ (by have:=H2M.out;omega)
     have HYM:=Lib.hid hym;clear hz hy hym hP;by_cases hlt:t<mx
     · have hz0:0≤z:=by have:=HZ.out;omega
       have hz1:z≤2000:=by have:=HZ.out;omega
       obtain ⟨b,hb⟩:∃ b:Nat,b=mx-1-t:=⟨_,rfl⟩;have HB:Hid (z=(b:Int)):=Lib.hid (by have:=HZ.out;omega);have HB2:Hid (b≤100000):=Lib.hid (by omega);have HB3:Hid (mx-t=b+1∧mx-(t+1)=b):=Lib.hid (by omega);have HQ:Hid (y*y%M=midE b L2 0 M):=Lib.hid (by rw [midE_zero,HY.out,HB3.out.1]);have HLT:=Lib.hid hlt;have cO:=HP.out.co;clear hb hlt ht;go_wp2_with (go_at_call 90;(with_reducible refine (HTM.out O w.heap.size y y wr HYM.out HYM.out HP.out.times).mono ?_);rintro e' w5 ⟨rfl,v5,hb5,hw5⟩;have HP5:=Lib.hid (HP.out.step hb5 hw5);clear hb5 hw5 cO)
       rename World=>wq
       go_loopw [87] (fun i wr=>∃ (j y:Nat),i=.int .i64 j∧j≤k∧y=midE b L2 j M∧PrAt w M A2 es g O L y wr) (fun i _=>k-(intOf i).toNat)
       case atStart=>exact ⟨0,_,rfl,Nat.zero_le _,HQ.out,HP5.out⟩
       case round =>
        obtain ⟨j,y2,rfl,hj,hy2,hP2⟩:=hrel;have HP2:=Lib.hid hP2;have HY2:=Lib.hid hy2;have HYM2:Hid (y2<M):=Lib.hid (by rw [hy2];exact Nat.mod_lt _ (by have:=H2M.out;omega));clear hy2 hP2;by_cases hlj:j<k
        · obtain ⟨hl1,_⟩:=HP2.out.row j (by rw [HLEN.out];exact hlj)
          obtain ⟨g2,rfl,hg2,hz1',hz2'⟩:=HP2.out.r2.at_ (k:=j) (by rw [HN2.out];exact hlj);obtain ⟨vx,_⟩:=HE.out.at_ (k:=j) (by rw [HN2.out];exact hlj);have h1:=HL1.out j hlj;have h2:=HL2.out j hlj;have hxm:=HXM.out j hlj;have hbit:=natBit_of (i:=b) vx;rw [← h2] at hbit;obtain ⟨ex,hex⟩:∃ ex,(es.getD j z0).2=ex:=⟨_,rfl⟩;obtain ⟨X,hX⟩:∃ X,L.getD j 0=X:=⟨_,rfl⟩;rw [hex] at hz2' hbit vx;rw [hX] at hl1 h1 hxm;have HSZ:=Lib.hid (show ex.size≤100000 from by unfold valid at vx;simp only [Bool.and_eq_true,decide_eq_true_eq] at vx;omega);have HLJ:=Lib.hid hlj;have HXM1:=Lib.hid hxm;obtain ⟨bt,hbt⟩:∃ bt,natBit ex b=bt:=⟨_,rfl⟩;rw [hbt] at hbit;have KB:=fun w=>HBIT.out ex z b w HB.out HB2.out HSZ.out
          rw [hbt] at KB;have KBx:=Lib.hid KB
          cases bt
          · have hoff:midE b L2 (j+1) M=midE b L2 j M:=midE_off (by rw [HLL.out];exact hlj) (fun h=>absurd (hbit.2 h) (by decide))
            have HOFF:=Lib.hid hoff;clear hoff hbit h1 h2 hxm hex hX vx hbt KB hlj hj hg2;go_wp2_with (go_at_call 92;(with_reducible refine (KBx.out _).mono ?_);rintro e' w' ⟨rfl,rfl⟩);go_roundw
            case rel=>exact ⟨j+1,y2,by go_num,HLJ.out,by rw [HOFF.out];exact HY2.out,HP2.out⟩
            case measure=>have:=HLJ.out;simp [intOf];omega
          · have hon:midE b L2 (j+1) M=midE b L2 j M*X%M:=by rw [midE_on (by rw [HLL.out];exact hlj) (hbit.1 rfl),h1]
            have HON:=Lib.hid hon;clear hon hbit h1 h2 hxm hex hX vx hbt KB hlj hj hg2
            go_wp2_with (first
             | (go_at_call 92;(with_reducible refine (KBx.out _).mono ?_);rintro e' w' ⟨rfl,rfl⟩)
             | (go_at_call 90;(with_reducible refine (HTM.out O w.heap.size X y2 _ HYM2.out HXM1.out HP2.out.times).mono ?_);rintro e' w6 ⟨rfl,v6,hb6,hw6⟩;have HP6:=Lib.hid (HP2.out.step hb6 hw6);clear hb6 hw6))
            go_roundw
            case rel=>exact ⟨j+1,_,by go_num,HLJ.out,by rw [HON.out,← HY2.out],HP6.out⟩
            case measure=>have:=HLJ.out;simp [intOf];omega
        · obtain rfl:j=k:=by omega
          have HF:Hid (y2=pwE (upE b L2)%M):=Lib.hid (by rw [HY2.out,← HLL.out,midE_full]);clear hlj;go_wp2_with fail;go_roundw
          case rel=>exact ⟨t+1,y2,z-1,rfl,by have:=HZ.out;omega,HLT.out,by rw [HB3.out.2];exact HF.out,HP2.out⟩
          case measure=>have:=HZ.out;simp only [intOf];omega
     · have hz0:z=-1:=by have:=HZ.out;omega
       subst hz0;have HF:Hid (y=pwE L2%M):=Lib.hid (by rw [HY.out,show mx-t=0 by omega,upE_zero]);have cO:=HP.out.co;clear hlt ht;go_wp2_with fail;go_ret2;exact ⟨ret_se (by rw [HF.out]) rfl,HP.out.bel⟩
end Go.Proofs.YtiacajjpkncomaaGreatDoor
