/- The walk of params.numbers. The walks of primegroup.IsGenerator and of the reference's: both are Has and not 1. The walks on parameters: Numbers of the reference, less, unit, numbers. The walks on parameters: Short of the law file. The walks of package params: the closures of Check and Sizes. The walks of the reference on parameters: Add, Mul where nothing overflows; Sizes over the error of Check. The walk of the reference's Sizes over the error of Check. The walks of package primegroup on canonical numbers of at most 8 bytes: formed, cofactor, Check. Plain law: the error of parameters, their sizes, and how these grow. No program in sight. The walks of the reference's package 09 on canonical numbers of at most 8 bytes: form, divides, Check, Has, IsGenerator. -/
import Derived.Test.YtiacajjpkncomaaGreatDoorExBR
import Derived.Deep.RegionHeld3
import Derived.Test.YtiacajjpkncomaaGreatDoorExJ3
import Derived.Test.YtiacajjpkncomaaGreatDoorExBW
import Derived.Test.YtiacajjpkncomaaGreatDoorExRA
import Derived.Test.YtiacajjpkncomaaGreatDoorExJ2
namespace Go.Proofs.YtiacajjpkncomaaGreatDoor
open Go.RowKit
set_option maxRecDepth 100000
set_option linter.unusedVariables false
set_option maxHeartbeats 4000000
theorem nat_infoE:∃ i:TypeInfo,Tryz.prog.info? 22=some i∧i.zero=some (.string ByteArray.empty)∧i.size=1∧i.bytes=16:=by
 obtain ⟨i,hi,hz⟩:=Option.map_eq_some_iff.1 nat_info;simp only [Prod.mk.injEq] at hz;exact ⟨i,hi,hz.1,hz.2.1,hz.2.2⟩
theorem strs_one (l:List ByteArray):∀ v∈l.map Value.string,v.oneCell'=true:=by
 intro v hv;obtain ⟨n,_,rfl⟩:=List.mem_map.mp hv;rfl
theorem wpList_append_S {w:World} {ops:Array Oper} {rest:List Oper} {o:Oper} {a:Act} {Q:Exit→Act→World→Prop} (hgd:o.guard=none) (s x:Operand)
  (ho:o.op=.call { callee:=.builtin .append,args:=#[s,x],argTypes:=#[31,31] })
  (base:Nat) (v:Value) (n:Nat) (ls:List ByteArray) (hs:a.eval s=v) (hown:OwnS w base v n ls)
  (A:Option Addr) (m c:Nat) (N:List ByteArray) (hx:a.eval x=.slice A m c) (hN:SLs w w.heap.size A N) (hm:N.length=m) (hsz:n+m≤100000) (hbase:base≤w.heap.size)
  (h:∀ v' w',OwnS w' base v' (n+m) (ls++N)→w.grownBy w' v.ownBlock→(v'.ownBlock=v.ownBlock∨v'.ownBlock=some w.heap.size)→wpList Tryz.prog ops Q rest (a.put o.dst v') w'):wpList Tryz.prog ops Q (o::rest) a w:=by
 obtain ⟨i,hi,hz,hs1,hb1⟩:=nat_infoE;refine wpList_append_any w hgd s x 31 ho base 22 i (.string ByteArray.empty) 1 16 Tryz.underlying31 hi hz hs1 hb1 rfl (by decide) v n (ls.map Value.string) hs hown.2 w.heap.size A m c (N.map Value.string) hx (hN.reads hm) (strs_one N) (by unfold maxLen;omega) (by omega) hbase ?_;intro v' w' h2 h3 h4;refine h v' w' ⟨by rw [List.length_append,hown.1,hm],?_⟩ h3 h4;rw [List.map_append];exact h2
theorem OwnS.blockOf {w:World} {base n:Nat} {v:Value} {ls:List ByteArray} (h:OwnS w base v n ls):∀ k,v.ownBlock=some k→base≤k∧k<w.heap.size:=by
 intro k hk
 rcases h.2.2 with ⟨rfl,_⟩|⟨g,cap,cur,rfl,h1,hg,rest⟩
 · cases hk
 · cases hk
   exact ⟨h1,(Array.getElem?_eq_some_iff.1 hg).1⟩
theorem params_numbers (ch sl mm mo mg mh wm wo wg wh se at_ ha el es bl ma:ByteArray) (w:World) :
  Calls Tryz.prog 45 #[.agg #[.string ch,.string sl,.string mm,.string mo,.string mg,.string mh,.string wm,.string wo,.string wg,.string wh,.string se,.string at_,.string ha,.string el,.string es,.string bl,.string ma]] w fun e w'=>(∃ A c,e=.returned (.slice A 17 c)∧SLs w' w'.heap.size A [ch,sl,se,at_,ha,el,es,bl,ma,mm,mo,mg,mh,wm,wo,wg,wh])∧Below w.heap.size w w':=by
 obtain ⟨W1,hW1⟩:∃ W1,W1=w.alloc (.cells #[.string ch,.string sl,.string mm,.string mo,.string mg,.string mh,.string wm,.string wo,.string wg,.string wh,.string se,.string at_,.string ha,.string el,.string es,.string bl,.string ma] 30):=⟨_,rfl⟩;have s1:W1.heap.size=w.heap.size+1:=by rw [hW1,World.size_alloc]
 have b1:Below w.heap.size w W1:=by rw [hW1];exact (Below.refl _ _).alloc (Nat.le_refl _) _
 obtain ⟨W2,hW2⟩:∃ W2,W2=W1.alloc (.cells #[.string ch,.string sl,.string se,.string at_,.string ha,.string el,.string es,.string bl,.string ma] 22):=⟨_,rfl⟩;have s2:W2.heap.size=w.heap.size+2:=by rw [hW2,World.size_alloc,s1]
 have o2:OwnS W2 w.heap.size (.slice (some ⟨w.heap.size+1,0,none⟩) 9 9) 9 [ch,sl,se,at_,ha,el,es,bl,ma]:=by
  have:=OwnS.lit W1 w.heap.size [ch,sl,se,at_,ha,el,es,bl,ma] 9 (by omega) rfl (by decide);rw [s1] at this;rw [hW2];exact this
 obtain ⟨W3,hW3⟩:∃ W3,W3=W2.alloc (.cells #[.string mm,.string mo,.string mg,.string mh,.string wm,.string wo,.string wg,.string wh] 28):=⟨_,rfl⟩
 have e3:W3.heap[w.heap.size+2]?=some (.cells #[.string mm,.string mo,.string mg,.string mh,.string wm,.string wo,.string wg,.string wh] 28 (0,0)):=by
  have:=heap_alloc_new W2 (.cells #[.string mm,.string mo,.string mg,.string mh,.string wm,.string wo,.string wg,.string wh] 28);rw [s2] at this;rw [hW3];exact this
 have s3:W3.heap.size=w.heap.size+3:=by rw [hW3,World.size_alloc,s2]
 obtain ⟨W4,hW4⟩:∃ W4,W4=W3.alloc (.cells #[.string mm,.string mo,.string mg,.string mh] 28):=⟨_,rfl⟩;have s4:W4.heap.size=w.heap.size+4:=by rw [hW4,World.size_alloc,s3]
 obtain ⟨W5,hW5⟩:∃ W5,W5=W4.alloc (.cells #[.string mm,.string mo,.string mg,.string mh] 22):=⟨_,rfl⟩;have s5:W5.heap.size=w.heap.size+5:=by rw [hW5,World.size_alloc,s4]
 have b25:Below W2.heap.size W2 W5:=by
  rw [hW5,hW4,hW3];exact (((Below.refl _ _).alloc (Nat.le_refl _) _).alloc (by rw [World.size_alloc];omega) _).alloc (by rw [World.size_alloc,World.size_alloc];omega) _
 have b35:Below W3.heap.size W3 W5:=by
  rw [hW5,hW4];exact ((Below.refl _ _).alloc (Nat.le_refl _) _).alloc (by rw [World.size_alloc];omega) _
 have o5:=o2.kept (B:=0) b25;have e5:=(b35.block (w.heap.size+2) (by omega)).trans e3;have b12:Below w.heap.size W1 W2:=by rw [hW2];exact (Below.refl _ _).alloc (by omega) _
 have bw5:Below w.heap.size w W5:=b1.trans (b12.trans (b25.mono (by omega)))
 have n5:SLs W5 W5.heap.size (some ⟨w.heap.size+4,0,none⟩) [mm,mo,mg,mh]:=by
  have:=SLs.new W4 22 [mm,mo,mg,mh] W5.heap.size (by omega);rw [s4] at this;rw [hW5] at this ⊢;exact this
 have HO5:=Lib.hid o5;have HE5:=Lib.hid e5;have HB5:=Lib.hid bw5;have HN5:=Lib.hid n5;have HS5:=Lib.hid s5;rw [hW4,hW3,hW2,hW1] at hW5;subst hW5;clear hW1 s1 b1 hW2 s2 o2 hW3 e3 s3 hW4 s4 b12 b25 b35 o5 e5 bw5 n5 s5;clear W1 W2 W3 W4
 go_enter Tryz.func45, Tryz.ntmps45
 go_wp2_with fail;refine wp_loop_rounds 3 ?_;rw [rounds_succ]
 go_wp2_with (at_builtin;refine wpList_append_S rfl (.tmp 37) (.tmp 48) rfl w.heap.size (.slice (some ⟨w.heap.size+1,0,none⟩) 9 9) 9 _ rfl HO5.out _ 4 4 [mm,mo,mg,mh] rfl HN5.out rfl (by decide) HB5.out.size ?_
              intro v6 w6 h1 h2 h3;have HO6:=Lib.hid h1;have HG6:=Lib.hid h2;have HV6:=Lib.hid h3
              clear h1 h2 h3)
 have hlt6:=HG6.out.size
 have e6:w6.heap[w.heap.size+2]?=some (.cells #[.string mm,.string mo,.string mg,.string mh,.string wm,.string wo,.string wg,.string wh] 28 (0,0)) :=
  (HG6.out.block (w.heap.size+2) (by rw [HS5.out];omega) (by show some (w.heap.size+2)≠some (w.heap.size+1);simp)).trans HE5.out
 have c4:w6.cell? ⟨w.heap.size+1+1,4,none⟩=some (.string wm):=by simp [World.cell?,e6]
 have c5:w6.cell? ⟨w.heap.size+1+1,5,none⟩=some (.string wo):=by simp [World.cell?,e6]
 have c6:w6.cell? ⟨w.heap.size+1+1,6,none⟩=some (.string wg):=by simp [World.cell?,e6]
 have c7:w6.cell? ⟨w.heap.size+1+1,7,none⟩=some (.string wh):=by simp [World.cell?,e6]
 have HB6:=Lib.hid (HB5.out.trans (below_grown HG6.out HB5.out.size (fun k hk=>by cases hk;exact Nat.le_succ _)))
 have hb7:Below w6.heap.size w6 ((w6.alloc (.cells #[.string wm,.string wo,.string wg,.string wh] 28)).alloc (.cells #[.string wm,.string wo,.string wg,.string wh] 22)) :=
  ((Below.refl _ _).alloc (Nat.le_refl _) _).alloc (by rw [World.size_alloc];omega) _
 have HO7:=Lib.hid (HO6.out.kept (B:=0) hb7);have HB7:=Lib.hid (HB6.out.trans (hb7.mono HB6.out.size));have hn7:=SLs.new (w6.alloc (.cells #[.string wm,.string wo,.string wg,.string wh] 28)) 22 [wm,wo,wg,wh] ((w6.alloc (.cells #[.string wm,.string wo,.string wg,.string wh] 28)).alloc (.cells #[.string wm,.string wo,.string wg,.string wh] 22)).heap.size (by simp);rw [World.size_alloc w6] at hn7;have HN7:=Lib.hid hn7;clear hlt6 e6 hb7 hn7 HO5 HE5 HN5 HO6 HV6;rw [rounds_succ]
 go_wp2_with (at_builtin;refine wpList_append_S rfl (.tmp 37) (.tmp 48) rfl w.heap.size v6 13 _ rfl HO7.out _ 4 4 [wm,wo,wg,wh] rfl HN7.out rfl (by decide) HB7.out.size ?_
              intro v8 w8 h1 h2 h3;have HO8:=Lib.hid h1;have HB8:=Lib.hid (HB7.out.trans (below_grown h2 HB7.out.size (fun k hk=>(HO7.out.blockOf k hk).1)))
              clear h1 h2 h3)
 rw [rounds_succ];go_wp2_with fail;obtain ⟨A,c,rfl,hs⟩:=HO8.out.form HB8.out.size;go_ret;exact ⟨⟨A,c,rfl,hs⟩,HB8.out⟩
end Go.Proofs.YtiacajjpkncomaaGreatDoor
namespace Go.Proofs.YtiacajjpkncomaaGreatDoor
open Go.RowKit
set_option maxRecDepth 100000
set_option linter.unusedVariables false
set_option maxHeartbeats 1000000
def genS (m o x:ByteArray):Bool:=pgHas m o x&&!(x.toList==[1])
theorem box2 (w:World) (m o:ByteArray):Below w.heap.size w (w.alloc (.cells #[.string m,.string o] 26)):=(Below.refl _ _).alloc (Nat.le_refl _) _
theorem pg_IsGen (m o x:ByteArray) (w:World) (sm:m.size≤8) :
  Calls Tryz.prog 50 #[.agg #[.string m,.string o],.string x] w fun e w'=>e=.returned (.bool (genS m o x))∧Below w.heap.size w w':=by
 have KH:=Lib.hid (fun w=>primegroup_Has m o x w sm);have HB:=Lib.hid (box2 w m o);have hr:genS m o x=(pgHas m o x&&!(x.toList==[1])):=rfl;have HR:=Lib.hid hr;obtain ⟨b,hb⟩:∃ b,b=pgHas m o x:=⟨_,rfl⟩;rw [← hb] at KH HR;clear sm hr hb
 cases b
 · have HR2:Hid (genS m o x=false):=Lib.hid (by rw [HR.out];rfl)
   go_enter Tryz.func50, Tryz.ntmps50
   go_wp2_with (first|(go_at_call 105;(with_reducible refine (KH.out _).mono ?_);rintro e w1 ⟨rfl,hb1⟩));go_ret;exact ⟨ret_bool HR2.out.symm,HB.out.trans (hb1.mono HB.out.size)⟩
 · have HR2:Hid (genS m o x=!(x.toList==[1])):=Lib.hid (by rw [HR.out];rfl)
   go_enter Tryz.func50, Tryz.ntmps50
   go_wp2_with (first|(go_at_call 105;(with_reducible refine (KH.out _).mono ?_);rintro e w1 ⟨rfl,hb1⟩));go_ret;exact ⟨ret_bool (by rw [HR2.out]<;>simp [bne]),HB.out.trans (hb1.mono HB.out.size)⟩
theorem r09_IsGen (m o x:ByteArray) (w:World) (sm:m.size≤8) :
  Calls Tryz.prog 64 #[.agg #[.string m,.string o],.string x] w fun e w'=>e=.returned (.bool (genS m o x))∧Below w.heap.size w w':=by
 have KH:=Lib.hid (fun w=>r09_Has m o x w sm);have HB:=Lib.hid (box2 w m o);have hr:genS m o x=(pgHas m o x&&!(x.toList==[1])):=rfl;have HR:=Lib.hid hr;obtain ⟨b,hb⟩:∃ b,b=pgHas m o x:=⟨_,rfl⟩;rw [← hb] at KH HR;clear sm hr hb
 cases b
 · have HR2:Hid (genS m o x=false):=Lib.hid (by rw [HR.out];rfl)
   go_enter Tryz.func64, Tryz.ntmps64
   go_wp2_with (first|(go_at_call 120;(with_reducible refine (KH.out _).mono ?_);rintro e w1 ⟨rfl,hb1⟩));go_ret;exact ⟨ret_bool HR2.out.symm,HB.out.trans (hb1.mono HB.out.size)⟩
 · have HR2:Hid (genS m o x=!(x.toList==[1])):=Lib.hid (by rw [HR.out];rfl)
   go_enter Tryz.func64, Tryz.ntmps64
   go_wp2_with (first|(go_at_call 120;(with_reducible refine (KH.out _).mono ?_);rintro e w1 ⟨rfl,hb1⟩));go_ret;exact ⟨ret_bool (by rw [HR2.out]<;>simp [bne]),HB.out.trans (hb1.mono HB.out.size)⟩
end Go.Proofs.YtiacajjpkncomaaGreatDoor
namespace Go.Proofs.YtiacajjpkncomaaGreatDoor
open Go.RowKit
set_option maxRecDepth 100000
set_option linter.unusedVariables false
set_option maxHeartbeats 4000000
theorem r11_less (a b:ByteArray) (w:World) (ha:valid a=true) (hb:valid b=true) :
  Calls Tryz.prog 66 #[.string a,.string b] w fun e w'=>e=.returned (.bool (decide (num a<num b)))∧Below w.heap.size w w':=by
 have KC:=Lib.hid (fun w=>r01_Cmp a b w);rw [show natCmp a b=cmpN (num a) (num b) from by unfold natCmp;rw [ha,hb];rfl] at KC;have hc:=cmpN_neg (x:=num a) (y:=num b);obtain ⟨y,hy⟩:∃ y,y=cmpN (num a) (num b):=⟨_,rfl⟩;rw [← hy] at KC hc;have HR:=Lib.hid (show decide (y<0)=decide (num a<num b) from decide_eq_decide.2 hc);clear ha hb hc hy
 go_enter Tryz.func66, Tryz.ntmps66
 go_wp2_with (first|(go_at_call 123;(with_reducible refine (KC.out _).mono ?_);rintro e w1 ⟨rfl,hb1⟩));go_ret;exact ⟨ret_bool HR.out,hb1⟩
theorem r01_OfL (i:Int) (n:Nat) (w:World) (h:i=(n:Int)) (hn:n<18446744073709551616):Calls Tryz.prog 67 #[.int .u64 i] w fun e w'=>e=.returned (.string (B n))∧Below w.heap.size w w':=by
 subst h;exact r01_Of n w hn
def unitS (m o x:ByteArray):Bool:=hasS m o x&&!(x.toList==(B 1).toList)
theorem r11_unit (m o x:ByteArray) (w:World) (sm:m.size≤8) :
  Calls Tryz.prog 68 #[.agg #[.string m,.string o],.string x] w fun e w'=>e=.returned (.bool (unitS m o x))∧Below w.heap.size w w':=by
 have KH:=Lib.hid (fun w=>r10_Has m o x w sm);have HB:=Lib.hid (box2 w m o);have hr:unitS m o x=(hasS m o x&&!(x.toList==(B 1).toList)):=rfl;have HR:=Lib.hid hr;obtain ⟨b,hb⟩:∃ b,b=hasS m o x:=⟨_,rfl⟩;rw [← hb] at KH HR;clear sm hr hb
 cases b
 · have HR2:Hid (unitS m o x=false):=Lib.hid (by rw [HR.out];rfl)
   go_enter Tryz.func68, Tryz.ntmps68
   go_wp2_with (first|(go_at_call 125;(with_reducible refine (KH.out _).mono ?_);rintro e w1 ⟨rfl,hb1⟩));go_ret;exact ⟨ret_bool HR2.out.symm,HB.out.trans (hb1.mono HB.out.size)⟩
 · have HR2:Hid (unitS m o x=!(x.toList==(B 1).toList)):=Lib.hid (by rw [HR.out];rfl)
   go_enter Tryz.func68, Tryz.ntmps68
   go_wp2_with (first
    | (go_at_call 125;(with_reducible refine (KH.out _).mono ?_);rintro e w1 ⟨rfl,hb1⟩)
    | (go_at_call 67;(with_reducible refine (r01_OfL 1 1 _ rfl (by decide)).mono ?_);rintro e w2 ⟨rfl,hb2⟩))
   go_ret;exact ⟨ret_bool (by rw [HR2.out]<;>simp [bne]),(HB.out.trans (hb1.mono HB.out.size)).trans (hb2.mono (Nat.le_trans HB.out.size hb1.size))⟩
theorem r11_Numbers (ch sl mm mo mg mh wm wo wg wh se at_ ha el es bl ma:ByteArray) (w:World) :
  Calls Tryz.prog 61 #[.agg #[.string ch,.string sl,.string mm,.string mo,.string mg,.string mh,.string wm,.string wo,.string wg,.string wh,.string se,.string at_,.string ha,.string el,.string es,.string bl,.string ma]] w fun e w'=>(∃ g,e=.returned (.slice (some ⟨g,0,none⟩) 17 17)∧SLs w' w'.heap.size (some ⟨g,0,none⟩) [ch,sl,mm,mo,mg,mh,wm,wo,wg,wh,se,at_,ha,el,es,bl,ma])∧Below w.heap.size w w':=by
 go_enter Tryz.func61, Tryz.ntmps61
 go_wp2_with fail;go_ret;have h:=SLs.new (w.alloc (.cells #[.string ch,.string sl,.string mm,.string mo,.string mg,.string mh,.string wm,.string wo,.string wg,.string wh,.string se,.string at_,.string ha,.string el,.string es,.string bl,.string ma] 30)) 22 [ch,sl,mm,mo,mg,mh,wm,wo,wg,wh,se,at_,ha,el,es,bl,ma] (((w.alloc (.cells #[.string ch,.string sl,.string mm,.string mo,.string mg,.string mh,.string wm,.string wo,.string wg,.string wh,.string se,.string at_,.string ha,.string el,.string es,.string bl,.string ma] 30)).alloc (.cells (([ch,sl,mm,mo,mg,mh,wm,wo,wg,wh,se,at_,ha,el,es,bl,ma]:List ByteArray).map Value.string).toArray 22)).heap.size) (by simp);rw [World.size_alloc w (.cells #[.string ch,.string sl,.string mm,.string mo,.string mg,.string mh,.string wm,.string wo,.string wg,.string wh,.string se,.string at_,.string ha,.string el,.string es,.string bl,.string ma] 30)] at h;exact ⟨⟨w.heap.size+1,rfl,h⟩,((Below.refl _ _).alloc (Nat.le_refl _) _).alloc (by simp) _⟩
end Go.Proofs.YtiacajjpkncomaaGreatDoor
namespace Go.Proofs.YtiacajjpkncomaaGreatDoor
open Go.RowKit
set_option maxRecDepth 100000
set_option linter.unusedVariables false
set_option maxHeartbeats 4000000
theorem info17:(Tryz.prog.info? 30).map (·.size)=some 17:=by kernel_rfl
theorem meas17 {k:Nat} (h:k<17):17-(intOf (.int .i64 ((k:Int)+1))).toNat<17-(intOf (.int .i64 (k:Int))).toNat:=by
 simp only [intOf];omega
end Go.Proofs.YtiacajjpkncomaaGreatDoor
namespace Go.Proofs.YtiacajjpkncomaaGreatDoor
open Go.RowKit
set_option maxRecDepth 100000
set_option linter.unusedVariables false
set_option maxHeartbeats 4000000
theorem cell_in' {W:World} {a:Addr} {v:Value} (h:W.cell? a=some v):a.block<W.heap.size:=by
 rcases Nat.lt_or_ge a.block W.heap.size with h2|h2
 · exact h2
 · simp [World.cell?,Array.getElem?_eq_none h2] at h
theorem params_Check1 (g1 g2:Nat) (m o x:ByteArray) (w:World) (sm:m.size≤8) (c0:w.cell? ⟨g1,6,none⟩=some (.string m)) (c1:w.cell? ⟨g1,7,none⟩=some (.string o)) (c2:w.cell? ⟨g2,0,none⟩=some (.string (B 1))) :
  Calls Tryz.prog 47 #[.string x,.pointer (some ⟨g1,0,none⟩),.pointer (some ⟨g2,0,none⟩)] w fun e w'=>e=.returned (.bool (unitS m o x))∧Below w.heap.size w w':=by
 have KH:=Lib.hid (fun w=>rsagroup_Has m o x w sm);have hr:unitS m o x=(hasS m o x&&!(x.toList==(B 1).toList)):=rfl;have HR:=Lib.hid hr;have HC2:=Lib.hid c2;obtain ⟨b,hb⟩:∃ b,b=hasS m o x:=⟨_,rfl⟩;rw [← hb] at KH HR;clear sm hr hb
 cases b
 · have HR2:Hid (unitS m o x=false):=Lib.hid (by rw [HR.out];rfl)
   go_enter Tryz.func47, Tryz.ntmps47
   go_wp2_with (first|(go_at_call 48;(with_reducible refine (KH.out _).mono ?_);rintro e w1 ⟨rfl,hb1⟩));go_ret;exact ⟨ret_bool HR2.out.symm,hb1⟩
 · have HR2:Hid (unitS m o x=!(x.toList==(B 1).toList)):=Lib.hid (by rw [HR.out];rfl)
   go_enter Tryz.func47, Tryz.ntmps47
   go_wp2_with (first|(go_at_call 48;(with_reducible refine (KH.out _).mono ?_);rintro e w1 ⟨rfl,hb1⟩
                       have d2:=(hb1.cell (p:=⟨g2,0,none⟩) (cell_in' HC2.out)).trans HC2.out))
   go_ret;exact ⟨ret_bool (by rw [HR2.out]<;>simp [bne]),hb1⟩
theorem natural_AddV (x y:Nat) (w:World) (hx:x<lim) (hy:y<lim) (hxy:x+y<lim) :
  Calls Tryz.prog 23 #[.string (B x),.string (B y)] w fun e w'=>e=.returned (.tuple #[.string (B (x+y)),.int .i64 0])∧Below w.heap.size w w':=by
 have:=natural_Add (B x) (B y) w
 have e:natAdd (B x) (B y)=(B (x+y),0):=by
  unfold natAdd fitted;rw [valid_B hx,valid_B hy,num_B,num_B,if_pos hxy];rfl
 rw [e] at this;exact this
theorem natural_MulV (x y:Nat) (w:World) (hx:x<lim) (hy:y<lim) (hxy:x*y<lim) :
  Calls Tryz.prog 51 #[.string (B x),.string (B y)] w fun e w'=>e=.returned (.tuple #[.string (B (x*y)),.int .i64 0])∧Below w.heap.size w w':=by
 have:=natural_Mul (B x) (B y) w
 have e:natMul (B x) (B y)=(B (x*y),0):=by
  unfold natMul fitted;rw [valid_B hx,valid_B hy,num_B,num_B,if_pos hxy];rfl
 rw [e] at this;exact this
end Go.Proofs.YtiacajjpkncomaaGreatDoor
namespace Go.Proofs.YtiacajjpkncomaaGreatDoor
open Go.RowKit
set_option maxRecDepth 100000
set_option linter.unusedVariables false
set_option maxHeartbeats 4000000
theorem r01_AddV (x y:Nat) (w:World) (hx:x<lim) (hy:y<lim) (hxy:x+y<lim) :
  Calls Tryz.prog 30 #[.string (B x),.string (B y)] w fun e w'=>e=.returned (.tuple #[.string (B (x+y)),.int .i64 0])∧Below w.heap.size w w':=by
 have KV:=Lib.hid (fun w=>r01_Valid (B x) w);have KW:=Lib.hid (fun w=>r01_Valid (B y) w);rw [valid_B hx] at KV;rw [valid_B hy] at KW;have KP:=Lib.hid (fun w=>r01_Plus x y w (Nat.le_trans (valid_size (valid_B hx)) (by decide)) (Nat.le_trans (valid_size (valid_B hy)) (by decide)));have KF:=Lib.hid (fun w=>r01_fit (x+y) w);have hf:fitted (x+y)=(B (x+y),0):=by unfold fitted;rw [if_pos hxy]
 rw [hf] at KF;obtain ⟨r,hr⟩:∃ r,r=x+y:=⟨_,rfl⟩;rw [← hr] at KP KF ⊢;clear hx hy hxy hf hr
 go_enter Tryz.func30, Tryz.ntmps30
 go_wp2_with (first
  | (go_at_call 62;(with_reducible refine (KV.out _).mono ?_);rintro e w1 ⟨rfl,rfl⟩)
  | (go_at_call 62;(with_reducible refine (KW.out _).mono ?_);rintro e w1 ⟨rfl,rfl⟩)
  | (go_at_call 74;(with_reducible refine (KP.out _).mono ?_);rintro e w2 ⟨rfl,hb2⟩)
  | (go_at_call 73;(with_reducible refine (KF.out _).mono ?_);rintro e w3 ⟨rfl,rfl⟩))
 go_ret2;exact ⟨rfl,hb2⟩
theorem r01_MulV (x y:Nat) (w:World) (hx:x<lim) (hy:y<lim) (hxy:x*y<lim) :
  Calls Tryz.prog 69 #[.string (B x),.string (B y)] w fun e w'=>e=.returned (.tuple #[.string (B (x*y)),.int .i64 0])∧Below w.heap.size w w':=by
 have:=r01_Mul (B x) (B y) w
 have e:natMul (B x) (B y)=(B (x*y),0):=by
  unfold natMul fitted;rw [valid_B hx,valid_B hy,num_B,num_B,if_pos hxy];rfl
 rw [e] at this;exact this
end Go.Proofs.YtiacajjpkncomaaGreatDoor
namespace Go.Proofs.YtiacajjpkncomaaGreatDoor
open Go.RowKit
set_option maxRecDepth 100000
set_option linter.unusedVariables false
set_option maxHeartbeats 4000000
structure BoxPar (w wx:World) (cs:Array Value):Prop where
 blk:wx.heap[w.heap.size]?=some (.cells cs 30 (0,0))
 bel:Below w.heap.size w wx
theorem BoxPar.start (w:World) (cs:Array Value):BoxPar w (w.alloc (.cells cs 30)) cs:=⟨heap_alloc_new w _,(Below.refl _ _).alloc (Nat.le_refl _) _⟩
theorem BoxPar.next {w wx wy:World} {cs:Array Value} (h:BoxPar w wx cs) (hb:Below wx.heap.size wx wy):BoxPar w wy cs :=
 ⟨(hb.block _ (Array.getElem?_eq_some_iff.1 h.blk).1).trans h.blk,h.bel.trans (hb.mono h.bel.size)⟩
theorem BoxPar.cell {w wx:World} {cs:Array Value} (h:BoxPar w wx cs) (k:Nat):wx.cell? ⟨w.heap.size,k,none⟩=cs[k]?:=by
 simp [World.cell?,h.blk]
end Go.Proofs.YtiacajjpkncomaaGreatDoor
namespace Go.Proofs.YtiacajjpkncomaaGreatDoor
open Go.RowKit
set_option maxRecDepth 100000
set_option linter.unusedVariables false
set_option maxHeartbeats 4000000
structure BoxG (w wx:World) (m o:ByteArray):Prop where
 c0:wx.cell? ⟨w.heap.size,0,none⟩=some (.string m)
 c1:wx.cell? ⟨w.heap.size,1,none⟩=some (.string o)
 lt:w.heap.size<wx.heap.size
 bel:Below w.heap.size w wx
theorem BoxG.start (w:World) (m o:ByteArray):BoxG w (w.alloc (.cells #[.string m,.string o] 26)) m o :=
 ⟨by simp [go_sem],by simp [go_sem],by simp,(Below.refl _ _).alloc (Nat.le_refl _) _⟩
theorem BoxG.next {w wx wy:World} {m o:ByteArray} (h:BoxG w wx m o) (hb:Below wx.heap.size wx wy):BoxG w wy m o :=
 ⟨(hb.cell (p:=⟨w.heap.size,0,none⟩) h.lt).trans h.c0,(hb.cell (p:=⟨w.heap.size,1,none⟩) h.lt).trans h.c1,Nat.lt_of_lt_of_le h.lt hb.size,h.bel.trans (hb.mono (Nat.le_of_lt h.lt))⟩
theorem pg_formed (M q:Nat) (w:World) (hM:M<lim) (hq:q<lim) :
  Calls Tryz.prog 103 #[.agg #[.string (B M),.string (B q)]] w fun e w'=>e=.returned (.bool true)∧Below w.heap.size w w':=by
 have KV:=Lib.hid (fun w=>natural_Valid (B M) w);have KW:=Lib.hid (fun w=>natural_Valid (B q) w);rw [valid_B hM] at KV;rw [valid_B hq] at KW;have HA0:=Lib.hid (BoxG.start w (B M) (B q));clear hM hq
 go_enter Tryz.func103, Tryz.ntmps103
 go_wp2_with (first
  | (go_at_call 46;(with_reducible refine (KV.out _).mono ?_);rintro e w1 ⟨rfl,rfl⟩)
  | (go_at_call 46;(with_reducible refine (KW.out _).mono ?_);rintro e w1 ⟨rfl,rfl⟩))
 go_ret;exact ⟨rfl,HA0.out.bel⟩
theorem pg_cofactorN (M q:Nat) (w:World) (hM:M<18446744073709551616) (hq:q<18446744073709551616) (h1:1≤M) (h0:0<q) :
  Calls Tryz.prog 104 #[.agg #[.string (B M),.string (B q)]] w fun e w'=>e=.returned (.tuple #[.string (B ((M-1)/q)),.bool (decide ((M-1)%q=0))])∧Below w.heap.size w w':=by
 have KS:=Lib.hid (fun w=>natural_Sub' M 1 w (u64_lt_lim hM) h1);rw [show B 1=(⟨#[1]⟩:ByteArray) from rfl] at KS;obtain ⟨N,hN⟩:∃ N,N=M-1:=⟨_,rfl⟩;rw [← hN] at KS ⊢;have KD:=Lib.hid (fun w=>natural_DivMod' N q w (by omega) hq h0);obtain ⟨r,hr⟩:∃ r,r=N%q:=⟨_,rfl⟩;obtain ⟨k,hk⟩:∃ k,k=N/q:=⟨_,rfl⟩;rw [← hk,← hr] at KD ⊢;have e1:(B q).toList.isEmpty=false:=B_isEmpty_false (by omega);have e2:(B r).toList.isEmpty=decide (r=0):=B_isEmpty r;have HA0:=Lib.hid (BoxG.start w (B M) (B q));clear hM hq h1 h0 hN hk hr
 go_enter Tryz.func104, Tryz.ntmps104
 go_wp2_with (first
  | (go_at_call 42;(with_reducible refine (KS.out _).mono ?_);rintro e w1 ⟨rfl,hb1⟩
     have HA1:=Lib.hid (HA0.out.next hb1);obtain ⟨c0,c1,_,_⟩:=HA1.out
     clear hb1)
  | (go_at_call 25;(with_reducible refine (KD.out _).mono ?_);rintro e w2 ⟨rfl,hb2⟩
     have HA2:=Lib.hid (HA1.out.next hb2)
     clear hb2))
 go_ret2;exact ⟨rfl,HA2.out.bel⟩
def pgN (M q:Nat):Int:=if isS M=true then (if isS q=true then (if (M-1)%q=0 then 0 else 13) else 12) else 12
theorem pg_CheckN (M q:Nat) (w:World) (hM:M<18446744073709551616) (hq:q<18446744073709551616) (hT:Tab w) :
  Calls Tryz.prog 49 #[.agg #[.string (B M),.string (B q)]] w fun e w'=>e=.returned (.int .i64 (pgN M q))∧Below w.heap.size w w':=by
 have KF:=Lib.hid (fun w=>pg_formed M q w (u64_lt_lim hM) (u64_lt_lim hq));have KM:=Lib.hid (fun wq (h:Below w.heap.size w wq)=>prime_Is_B M wq hM (hT.below h));have KQ:=Lib.hid (fun wq (h:Below w.heap.size w wq)=>prime_Is_B q wq hq (hT.below h));have l1:decide ((8:Int)<((B M).size:Int))=false:=by rw [decide_eq_false_iff_not];have:=B_size_le'.2 (show M<256^8 from hM);omega
 have l2:decide ((8:Int)<((B q).size:Int))=false:=by rw [decide_eq_false_iff_not];have:=B_size_le'.2 (show q<256^8 from hq);omega
 have HA0:=Lib.hid (BoxG.start w (B M) (B q))
 cases sM:isS M
 · have hr:pgN M q=12:=by unfold pgN;rw [sM];rfl
   rw [hr];rw [sM] at KM;clear hM hq sM hT hr
   go_enter Tryz.func49, Tryz.ntmps49
   go_wp2_with (first
    | (go_at_call 103;(with_reducible refine (KF.out _).mono ?_);rintro e w1 ⟨rfl,hb1⟩
       have HA1:=Lib.hid (HA0.out.next hb1);obtain ⟨c0,c1,_,_⟩:=HA1.out
       clear hb1)
    | (go_at_call 24;(with_reducible refine (KM.out _ HA1.out.bel).mono ?_);rintro e w2 ⟨rfl,hb2⟩
       have HA2:=Lib.hid (HA1.out.next hb2)
       clear hb2))
   go_ret;exact ⟨rfl,HA2.out.bel⟩
 · rw [sM] at KM
   cases sq:isS q
   · have hr:pgN M q=12:=by unfold pgN;rw [sM,sq];rfl
     rw [hr];rw [sq] at KQ;clear hM hq sM sq hT hr
     go_enter Tryz.func49, Tryz.ntmps49
     go_wp2_with (first
      | (go_at_call 103;(with_reducible refine (KF.out _).mono ?_);rintro e w1 ⟨rfl,hb1⟩
         have HA1:=Lib.hid (HA0.out.next hb1);obtain ⟨c0,c1,_,_⟩:=HA1.out
         clear hb1)
      | (go_at_call 24;(with_reducible refine (KM.out _ HA1.out.bel).mono ?_);rintro e w2 ⟨rfl,hb2⟩
         have HA2:=Lib.hid (HA1.out.next hb2);obtain ⟨c0,c1,_,_⟩:=HA2.out
         clear hb2)
      | (go_at_call 24;(with_reducible refine (KQ.out _ HA2.out.bel).mono ?_);rintro e w3 ⟨rfl,hb3⟩
         have HA3:=Lib.hid (HA2.out.next hb3)
         clear hb3))
     go_ret;exact ⟨rfl,HA3.out.bel⟩
   · rw [sq] at KQ
     have h1:1≤M:=by
      rcases Nat.eq_zero_or_pos M with h|h
      · rw [h,isS_small (by decide)] at sM;cases sM
      · exact h
     have h0:0<q:=by
      rcases Nat.eq_zero_or_pos q with h|h
      · rw [h,isS_small (by decide)] at sq;cases sq
      · exact h
     have KC:=Lib.hid (fun w=>pg_cofactorN M q w hM hq h1 h0);obtain ⟨k,hk⟩:∃ k,k=(M-1)/q:=⟨_,rfl⟩;rw [← hk] at KC;by_cases hd:(M-1)%q=0
     all_goals
      first
       | (have hr:pgN M q=0:=by { unfold pgN;rw [sM,sq,if_pos rfl,if_pos rfl,if_pos hd] }
          rw [hr]
          rw [decide_eq_true hd] at KC)
       | (have hr:pgN M q=13:=by { unfold pgN;rw [sM,sq,if_pos rfl,if_pos rfl,if_neg hd] }
          rw [hr]
          rw [decide_eq_false hd] at KC)
      clear hM hq h1 h0 hd sM sq hT hk hr
      go_enter Tryz.func49, Tryz.ntmps49
      go_wp2_with (first
       | (go_at_call 103;(with_reducible refine (KF.out _).mono ?_);rintro e w1 ⟨rfl,hb1⟩
          have HA1:=Lib.hid (HA0.out.next hb1);obtain ⟨c0,c1,_,_⟩:=HA1.out
          clear hb1)
       | (go_at_call 24;(with_reducible refine (KM.out _ HA1.out.bel).mono ?_);rintro e w2 ⟨rfl,hb2⟩
          have HA2:=Lib.hid (HA1.out.next hb2);obtain ⟨c0,c1,_,_⟩:=HA2.out
          clear hb2)
       | (go_at_call 24;(with_reducible refine (KQ.out _ HA2.out.bel).mono ?_);rintro e w3 ⟨rfl,hb3⟩
          have HA3:=Lib.hid (HA2.out.next hb3);obtain ⟨c0,c1,_,_⟩:=HA3.out
          clear hb3)
       | (go_at_call 104;(with_reducible refine (KC.out _).mono ?_);rintro e w4 ⟨rfl,hb4⟩
          have HA4:=Lib.hid (HA3.out.next hb4)
          clear hb4))
      go_ret;exact ⟨rfl,HA4.out.bel⟩
end Go.Proofs.YtiacajjpkncomaaGreatDoor
namespace Go.Proofs.YtiacajjpkncomaaGreatDoor
set_option maxRecDepth 100000
set_option linter.unusedVariables false
def groupP (mm mo mg mh wm wo wg wh:ByteArray):Bool:=decide (pgN (num mm) (num mo)=0)&&genS mm mo mg&&genS mm mo mh&&unitS wm wo wg&&unitS wm wo wh
def twoUp (l:List ByteArray):Bool:=l.all fun s=>decide (2≤num s)
def capP (mo ch se at_:ByteArray):Bool:=decide (8*num at_≤num mo)&&decide (num ch≤num mo)&&decide (num se≤num mo)
def parS (ch sl mm mo mg mh wm wo wg wh se at_ ha el es bl ma:ByteArray):Int :=
 if [ch,sl,se,at_,ha,el,es,bl,ma,mm,mo,mg,mh,wm,wo,wg,wh].all valid=true then
  (if groupP mm mo mg mh wm wo wg wh=true then
   (if twoUp [ch,sl,se,at_,ha,el,es,bl,ma]=true then (if capP mo ch se at_=true then 0 else 2) else 2)
  else 13)
 else 3
theorem parS_form {ch sl mm mo mg mh wm wo wg wh se at_ ha el es bl ma:ByteArray} (h:[ch,sl,se,at_,ha,el,es,bl,ma,mm,mo,mg,mh,wm,wo,wg,wh].all valid=false) :
  parS ch sl mm mo mg mh wm wo wg wh se at_ ha el es bl ma=3:=by unfold parS;rw [h];rfl
theorem parS_group {ch sl mm mo mg mh wm wo wg wh se at_ ha el es bl ma:ByteArray} (h:[ch,sl,se,at_,ha,el,es,bl,ma,mm,mo,mg,mh,wm,wo,wg,wh].all valid=true) (h2:groupP mm mo mg mh wm wo wg wh=false) :
  parS ch sl mm mo mg mh wm wo wg wh se at_ ha el es bl ma=13:=by unfold parS;rw [h,h2];rfl
theorem parS_two {ch sl mm mo mg mh wm wo wg wh se at_ ha el es bl ma:ByteArray} (h:[ch,sl,se,at_,ha,el,es,bl,ma,mm,mo,mg,mh,wm,wo,wg,wh].all valid=true) (h2:groupP mm mo mg mh wm wo wg wh=true) (h3:twoUp [ch,sl,se,at_,ha,el,es,bl,ma]=false) :
  parS ch sl mm mo mg mh wm wo wg wh se at_ ha el es bl ma=2:=by unfold parS;rw [h,h2,h3];rfl
theorem parS_cap {ch sl mm mo mg mh wm wo wg wh se at_ ha el es bl ma:ByteArray} (h:[ch,sl,se,at_,ha,el,es,bl,ma,mm,mo,mg,mh,wm,wo,wg,wh].all valid=true) (h2:groupP mm mo mg mh wm wo wg wh=true) (h3:twoUp [ch,sl,se,at_,ha,el,es,bl,ma]=true) (h4:capP mo ch se at_=false) :
  parS ch sl mm mo mg mh wm wo wg wh se at_ ha el es bl ma=2:=by unfold parS;rw [h,h2,h3,h4];rfl
theorem parS_ok {ch sl mm mo mg mh wm wo wg wh se at_ ha el es bl ma:ByteArray} (h:[ch,sl,se,at_,ha,el,es,bl,ma,mm,mo,mg,mh,wm,wo,wg,wh].all valid=true) (h2:groupP mm mo mg mh wm wo wg wh=true) (h3:twoUp [ch,sl,se,at_,ha,el,es,bl,ma]=true) (h4:capP mo ch se at_=true) :
  parS ch sl mm mo mg mh wm wo wg wh se at_ ha el es bl ma=0:=by unfold parS;rw [h,h2,h3,h4];rfl
theorem parS_zero {ch sl mm mo mg mh wm wo wg wh se at_ ha el es bl ma:ByteArray} (h:parS ch sl mm mo mg mh wm wo wg wh se at_ ha el es bl ma=0) :
  [ch,sl,se,at_,ha,el,es,bl,ma,mm,mo,mg,mh,wm,wo,wg,wh].all valid=true∧groupP mm mo mg mh wm wo wg wh=true∧twoUp [ch,sl,se,at_,ha,el,es,bl,ma]=true∧capP mo ch se at_=true:=by
 cases h1:[ch,sl,se,at_,ha,el,es,bl,ma,mm,mo,mg,mh,wm,wo,wg,wh].all valid
 · rw [parS_form h1] at h;cases h
 · cases h2:groupP mm mo mg mh wm wo wg wh
   · rw [parS_group h1 h2] at h;cases h
   · cases h3:twoUp [ch,sl,se,at_,ha,el,es,bl,ma]
     · rw [parS_two h1 h2 h3] at h;cases h
     · cases h4:capP mo ch se at_
       · rw [parS_cap h1 h2 h3 h4] at h;cases h
       · exact ⟨rfl,rfl,rfl,rfl⟩
theorem unitS_mod {m o x:ByteArray} (h:unitS m o x=true):goodS m o=true:=by
 unfold unitS hasS at h;simp only [Bool.and_eq_true] at h;exact h.1.1.1.1.1
end Go.Proofs.YtiacajjpkncomaaGreatDoor
namespace Go.Proofs.YtiacajjpkncomaaGreatDoor
open Go.RowKit
set_option maxRecDepth 100000
set_option linter.unusedVariables false
set_option maxHeartbeats 4000000
theorem r09_formN (M q:Nat) (w:World) (hM:M<lim) (hq:q<lim) :
  Calls Tryz.prog 118 #[.agg #[.string (B M),.string (B q)]] w fun e w'=>e=.returned (.bool true)∧Below w.heap.size w w':=by
 have KV:=Lib.hid (fun w=>r01_Valid (B M) w);have KW:=Lib.hid (fun w=>r01_Valid (B q) w);rw [valid_B hM] at KV;rw [valid_B hq] at KW;have HA0:=Lib.hid (BoxG.start w (B M) (B q));clear hM hq
 go_enter Tryz.func118, Tryz.ntmps118
 go_wp2_with (first
  | (go_at_call 62;(with_reducible refine (KV.out _).mono ?_);rintro e w1 ⟨rfl,rfl⟩)
  | (go_at_call 62;(with_reducible refine (KW.out _).mono ?_);rintro e w1 ⟨rfl,rfl⟩))
 go_ret;exact ⟨rfl,HA0.out.bel⟩
theorem r09_divides (M q:Nat) (w:World) (hM:M<18446744073709551616) (hq:q<18446744073709551616) (h1:1≤M) (h0:0<q) :
  Calls Tryz.prog 119 #[.agg #[.string (B M),.string (B q)]] w fun e w'=>e=.returned (.bool (decide ((M-1)%q=0)))∧Below w.heap.size w w':=by
 have hsM:(B M).size≤200:=by have:=B_size_le'.2 (show M<256^8 from hM);omega
 have KS:=Lib.hid (fun w=>r01_Minus M 1 w hsM (by decide) h1);rw [show B 1=(⟨#[1]⟩:ByteArray) from rfl] at KS;obtain ⟨N,hN⟩:∃ N,N=M-1:=⟨_,rfl⟩;rw [← hN] at KS ⊢;have KD:=Lib.hid (fun w=>r01_Over N q w (u64_lt_lim (by omega)) (u64_lt_lim hq) h0);obtain ⟨r,hr⟩:∃ r,r=N%q:=⟨_,rfl⟩;obtain ⟨k,hk⟩:∃ k,k=N/q:=⟨_,rfl⟩;rw [← hk,← hr] at KD;rw [← hr];have e1:(B M).toList.isEmpty=false:=B_isEmpty_false (by omega);have e2:(B r).toList.isEmpty=decide (r=0):=B_isEmpty r;have HA0:=Lib.hid (BoxG.start w (B M) (B q));obtain ⟨c0,c1,_,_⟩:=HA0.out;clear hM hq h1 h0 hN hk hr hsM
 go_enter Tryz.func119, Tryz.ntmps119
 go_wp2_with fail
 go_region_held3 (fun w'=>w'.cell? ⟨w.heap.size,0,none⟩=some (.string (B M))∧w'.cell? ⟨w.heap.size,1,none⟩=some (.string (B q))) (first|go_keep) (first
  | (go_at_call 134;(with_reducible refine (KS.out _).mono ?_);rintro e w1 ⟨rfl,hb1⟩
     have HA1:Hid (BoxG w w1 (B M) (B q)):=by first|exact Lib.hid (HA0.out.next hb1)|exact Lib.hid ((HA0.out.next (Below.refl _ _).drew).next hb1)
     obtain ⟨c0,c1,_,_⟩:=HA1.out
     clear hb1)
  | (go_at_call 78;(with_reducible refine (KD.out _).mono ?_);rintro e w2 ⟨rfl,hb2⟩
     have HA2:Hid (BoxG w w2 (B M) (B q)):=by first|exact Lib.hid (HA1.out.next hb2)|exact Lib.hid ((HA1.out.next (Below.refl _ _).drew).next hb2)
     obtain ⟨c0,c1,_,_⟩:=HA2.out
     clear hb2))
 all_goals
  go_wp2_with fail;go_ret;exact ⟨rfl,HA2.out.bel⟩
theorem r04_Is_B (n:Nat) (w:World) (hn:n<18446744073709551616):Calls Tryz.prog 31 #[.string (B n)] w fun e w'=>e=.returned (.tuple #[.bool (isS n),.int .i64 0])∧Below w.heap.size w w':=by
 have:=r04_Is (B n) w;have hsm:smallS (B n)=(n,0):=by unfold smallS;rw [valid_B (Nat.lt_trans hn (by decide)),if_pos rfl,if_pos (B_size_le'.2 (Nat.lt_of_lt_of_le hn (by decide))),num_B]
 have e:isPS (B n)=(isS n,0):=by unfold isPS;rw [hsm];simp
 rw [e] at this;exact this
theorem r09_Check (M q:Nat) (w:World) (hM:M<18446744073709551616) (hq:q<18446744073709551616) :
  Calls Tryz.prog 63 #[.agg #[.string (B M),.string (B q)]] w fun e w'=>e=.returned (.int .i64 (pgN M q))∧Below w.heap.size w w':=by
 have KF:=Lib.hid (fun w=>r09_formN M q w (u64_lt_lim hM) (u64_lt_lim hq));have KM:=Lib.hid (fun wq=>r04_Is_B M wq hM);have KQ:=Lib.hid (fun wq=>r04_Is_B q wq hq);have l1:decide ((8:Int)<((B M).size:Int))=false:=by rw [decide_eq_false_iff_not];have:=B_size_le'.2 (show M<256^8 from hM);omega
 have l2:decide ((8:Int)<((B q).size:Int))=false:=by rw [decide_eq_false_iff_not];have:=B_size_le'.2 (show q<256^8 from hq);omega
 have HA0:=Lib.hid (BoxG.start w (B M) (B q))
 cases sM:isS M
 · have hr:pgN M q=12:=by unfold pgN;rw [sM];rfl
   rw [hr];rw [sM] at KM;clear hM hq sM hr
   go_enter Tryz.func63, Tryz.ntmps63
   go_wp2_with (first
    | (go_at_call 118;(with_reducible refine (KF.out _).mono ?_);rintro e w1 ⟨rfl,hb1⟩
       have HA1:=Lib.hid (HA0.out.next hb1);obtain ⟨c0,c1,_,_⟩:=HA1.out
       clear hb1)
    | (go_at_call 31;(with_reducible refine (KM.out _).mono ?_);rintro e w2 ⟨rfl,hb2⟩
       have HA2:=Lib.hid (HA1.out.next hb2)
       clear hb2))
   go_ret;exact ⟨rfl,HA2.out.bel⟩
 · rw [sM] at KM
   cases sq:isS q
   · have hr:pgN M q=12:=by unfold pgN;rw [sM,sq];rfl
     rw [hr];rw [sq] at KQ;clear hM hq sM sq hr
     go_enter Tryz.func63, Tryz.ntmps63
     go_wp2_with (first
      | (go_at_call 118;(with_reducible refine (KF.out _).mono ?_);rintro e w1 ⟨rfl,hb1⟩
         have HA1:=Lib.hid (HA0.out.next hb1);obtain ⟨c0,c1,_,_⟩:=HA1.out
         clear hb1)
      | (go_at_call 31;(with_reducible refine (KM.out _).mono ?_);rintro e w2 ⟨rfl,hb2⟩
         have HA2:=Lib.hid (HA1.out.next hb2);obtain ⟨c0,c1,_,_⟩:=HA2.out
         clear hb2)
      | (go_at_call 31;(with_reducible refine (KQ.out _).mono ?_);rintro e w3 ⟨rfl,hb3⟩
         have HA3:=Lib.hid (HA2.out.next hb3)
         clear hb3))
     go_ret;exact ⟨rfl,HA3.out.bel⟩
   · rw [sq] at KQ
     have h1:1≤M:=by
      rcases Nat.eq_zero_or_pos M with h|h
      · rw [h,isS_small (by decide)] at sM;cases sM
      · exact h
     have h0:0<q:=by
      rcases Nat.eq_zero_or_pos q with h|h
      · rw [h,isS_small (by decide)] at sq;cases sq
      · exact h
     have KC:=Lib.hid (fun w=>r09_divides M q w hM hq h1 h0);by_cases hd:(M-1)%q=0
     all_goals
      first
       | (have hr:pgN M q=0:=by { unfold pgN;rw [sM,sq,if_pos rfl,if_pos rfl,if_pos hd] }
          rw [hr]
          rw [decide_eq_true hd] at KC)
       | (have hr:pgN M q=13:=by { unfold pgN;rw [sM,sq,if_pos rfl,if_pos rfl,if_neg hd] }
          rw [hr]
          rw [decide_eq_false hd] at KC)
      clear hM hq h1 h0 hd sM sq hr
      go_enter Tryz.func63, Tryz.ntmps63
      go_wp2_with (first
       | (go_at_call 118;(with_reducible refine (KF.out _).mono ?_);rintro e w1 ⟨rfl,hb1⟩
          have HA1:=Lib.hid (HA0.out.next hb1);obtain ⟨c0,c1,_,_⟩:=HA1.out
          clear hb1)
       | (go_at_call 31;(with_reducible refine (KM.out _).mono ?_);rintro e w2 ⟨rfl,hb2⟩
          have HA2:=Lib.hid (HA1.out.next hb2);obtain ⟨c0,c1,_,_⟩:=HA2.out
          clear hb2)
       | (go_at_call 31;(with_reducible refine (KQ.out _).mono ?_);rintro e w3 ⟨rfl,hb3⟩
          have HA3:=Lib.hid (HA2.out.next hb3);obtain ⟨c0,c1,_,_⟩:=HA3.out
          clear hb3)
       | (go_at_call 119;(with_reducible refine (KC.out _).mono ?_);rintro e w4 ⟨rfl,hb4⟩
          have HA4:=Lib.hid (HA3.out.next hb4)
          clear hb4))
      go_ret;exact ⟨rfl,HA4.out.bel⟩
end Go.Proofs.YtiacajjpkncomaaGreatDoor
