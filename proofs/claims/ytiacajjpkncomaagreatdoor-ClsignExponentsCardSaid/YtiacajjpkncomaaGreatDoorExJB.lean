/- prime.Is in general; a message is an element. What an exponent's search draws (clsign.Exponent), in plain words, and the boxes of the walk. clsign.Exponent. -/
import Derived.Test.YtiacajjpkncomaaGreatDoorExJ9
import Derived.Test.YtiacajjpkncomaaGreatDoorExJ2
import Derived.Test.YtiacajjpkncomaaGreatDoorExJ3
import Derived.Test.YtiacajjpkncomaaGreatDoorExJA
import Derived.Test.YtiacajjpkncomaaGreatDoorExJ5
import Derived.Deep.DeepCutAuto
import Derived.Deep.CutBlock
import Derived.Deep.RegionHeld3
namespace Go.Proofs.YtiacajjpkncomaaGreatDoor
open Go.RowKit
set_option maxRecDepth 100000
set_option linter.unusedVariables false
set_option maxHeartbeats 4000000
theorem prime_IsK (s:ByteArray) (w:World) (hT:Tab w) :
  Calls Tryz.prog 24 #[.string s] w fun e w'=>e=.returned (.tuple #[.bool (isPS s).1,.int .i64 (isPS s).2])∧Below w.heap.size w w':=by
 have hr:isPS s=(decide ((smallS s).2=0)&&isS (smallS s).1,(smallS s).2):=rfl;have KS:=fun w=>prime_small s w
 have hlt:=smallS_lt s;obtain ⟨x,hx⟩:∃ x,x=(smallS s).1:=⟨_,rfl⟩;obtain ⟨er,he⟩:∃ er,er=(smallS s).2:=⟨_,rfl⟩;rw [← hx,← he] at hr;rw [← hx] at hlt;simp only [← hx,← he] at KS;have KS:=Lib.hid KS;have KI:=Lib.hid (fun w (hT:Tab w)=>prime_is x w hlt hT);have HT:=Lib.hid hT;rw [hr];by_cases h0:er=0
 · subst h0
   clear hr hx he hlt hT
   go_enter Tryz.func24, Tryz.ntmps24
   go_wp2_with (first
    | (go_at_call 58;(with_reducible refine (KS.out _).mono ?_);rintro e w1 ⟨rfl,rfl⟩)
    | (go_at_call 59;(with_reducible refine (KI.out _ HT.out).mono ?_);rintro e w2 ⟨rfl,hb2⟩;have HB2:=Lib.hid hb2;clear hb2))
   go_ret2;exact ⟨by simp,HB2.out⟩
 · have k0:(er==0)=false:=by rw [beq_eq_false_iff_ne];exact h0
   have H0:=Lib.hid h0;clear hr hx he hlt hT h0
   go_enter Tryz.func24, Tryz.ntmps24
   go_wp2_with (first
    | (go_at_call 58;(with_reducible refine (KS.out _).mono ?_);rintro e w1 ⟨rfl,rfl⟩))
   go_ret2;exact ⟨by simp [H0.out],Below.refl _ _⟩
theorem pwE_coprime (M:Nat):∀ l:List (Nat × Nat),(∀ p∈l,Nat.gcd p.1 M=1)→Nat.gcd (pwE l) M=1
 | [],_=>by rw [pwE_nil];exact Nat.gcd_one_left M
 | p::l,h=>by
   rw [pwE_cons];exact Nat.Coprime.mul_left (Nat.Coprime.pow_left _ (h p (List.mem_cons_self ..))) (pwE_coprime M l (fun q hq=>h q (List.mem_cons_of_mem _ hq)))
theorem zipE_fst {rs ats:List ByteArray}:∀ p∈zipE rs ats,∃ r∈rs,p.1=num r:=by
 intro p hp;unfold zipE at hp;obtain ⟨i,hi,rfl⟩:=List.getElem_of_mem hp;rw [List.getElem_zipWith];exact ⟨_,List.getElem_mem _,rfl⟩
theorem hasG_coprime {m o s:ByteArray} {x:Nat} (sm:m.size≤8) (ho:o.toList.isEmpty=true) (h:hasG m o s=true) (hx:x<num m) (h2:2≤num m) (hg:Nat.gcd x (num m)=1):hasG m o (B x)=true:=by
 have hl:=hasG_lt sm h;unfold hasG at h ⊢;rw [if_pos ho] at h ⊢;unfold hasS at h ⊢;simp only [Bool.and_eq_true,decide_eq_true_eq] at h ⊢;have hx0:x≠0:=by rintro rfl;rw [Nat.gcd_zero_left] at hg;omega
 have hxl:x<lim:=u64_lt_lim (by omega);refine ⟨⟨⟨⟨h.1.1.1.1,valid_B hxl⟩,?_⟩,?_⟩,by rw [num_B];exact hg⟩
 · rw [B_isEmpty_false hx0];rfl
 · unfold natCmp cmpN
   rw [valid_B hxl,hl.2.1,num_B];simp [hx]
theorem hasG_msg {m o s:ByteArray} {rs ats:List ByteArray} (sm:m.size≤8) (ho:o.toList.isEmpty=true) (h:hasG m o s=true) (h2:2≤num m) (hrs:rs.all (hasG m o)=true):hasG m o (B (msgV m rs ats))=true:=by
 refine hasG_coprime sm ho h (Nat.mod_lt _ (by omega)) h2 ?_;unfold msgV;rw [← Nat.gcd_rec,Nat.gcd_comm];refine pwE_coprime _ _ fun p hp=>?_
 obtain ⟨r,hr,e⟩:=zipE_fst p hp;rw [e];exact gcd_of_has ho (List.all_eq_true.1 hrs r hr)
def expL (vals:List ByteArray) (seed:ByteArray) (EL ES od:Nat):Nat→Int→Int × Nat × Int
 | 0,_=>(12,0,0)
 | k+1,z =>
   if (belowS vals seed z ES).1=0 then
    (if (isPS (B (EL+(belowS vals seed z ES).2))).2=0 then
     (if ((isPS (B (EL+(belowS vals seed z ES).2))).1&&decide (od%(EL+(belowS vals seed z ES).2)≠0))=true then (0,EL+(belowS vals seed z ES).2,z+1) else expL vals seed EL ES od k (z+1))
    else ((isPS (B (EL+(belowS vals seed z ES).2))).2,0,0))
   else ((belowS vals seed z ES).1,0,0)
theorem expL_err {vals:List ByteArray} {seed:ByteArray} {EL ES od k:Nat} {z:Int} (h:(belowS vals seed z ES).1≠0):expL vals seed EL ES od (k+1) z=((belowS vals seed z ES).1,0,0):=by
 rw [expL,if_neg h]
theorem expL_bad {vals:List ByteArray} {seed:ByteArray} {EL ES od k x:Nat} {z:Int} (h:(belowS vals seed z ES).1=0) (hx:x=EL+(belowS vals seed z ES).2) (hp:(isPS (B x)).2≠0):expL vals seed EL ES od (k+1) z=((isPS (B x)).2,0,0):=by
 subst hx;rw [expL,if_pos h,if_neg hp]
theorem expL_hit {vals:List ByteArray} {seed:ByteArray} {EL ES od k x:Nat} {z:Int} (h:(belowS vals seed z ES).1=0) (hx:x=EL+(belowS vals seed z ES).2) (hp:(isPS (B x)).2=0) (hq:((isPS (B x)).1&&decide (od%x≠0))=true) :
  expL vals seed EL ES od (k+1) z=(0,x,z+1):=by
 subst hx;rw [expL,if_pos h,if_pos hp,if_pos hq]
theorem expL_on {vals:List ByteArray} {seed:ByteArray} {EL ES od k x:Nat} {z:Int} (h:(belowS vals seed z ES).1=0) (hx:x=EL+(belowS vals seed z ES).2) (hp:(isPS (B x)).2=0) (hq:((isPS (B x)).1&&decide (od%x≠0))=false) :
  expL vals seed EL ES od (k+1) z=expL vals seed EL ES od k (z+1):=by
 subst hx;rw [expL,if_pos h,if_pos hp,hq,if_neg (by decide)]
def expD (P:Int) (vals:List ByteArray) (seed p q el es:ByteArray) (z:Int):Int × Nat × Int :=
 if P=0 then (if goodT vals z=true then (if (orderS p q).2=0 then expL vals seed (num el) (num es) (num (orderS p q).1) 64 z else ((orderS p q).2,0,0)) else (3,0,0)) else (P,0,0)
theorem orderS_ok {p q:ByteArray} (h:(orderS p q).2=0):(orderS p q).1=B (num (orderS p q).1)∧num (orderS p q).1<lim:=by
 unfold orderS at h ⊢
 split at h
 · split at h
   · rename_i h1 h2
     rw [if_pos h1,if_pos h2] at *
     unfold natMul at h ⊢
     split at h
     · rename_i h3
       rw [if_pos h3] at *
       unfold fitted at h ⊢
       split at h
       · rename_i h4
         rw [if_pos h4];generalize num (B ((num p-1)/2))*num (B ((num q-1)/2))=X at h4 ⊢;show B X=B (num (B X))∧num (B X)<lim;rw [num_B];exact ⟨rfl,h4⟩
       · exact absurd h (by decide)
     · exact absurd h (by decide)
   · rename_i h2
     simp at h;exact absurd h h2
 · exact absurd h (by decide)
structure ExB (w:World) (cs:Array Value) (P Q:ByteArray) (A:Option Addr) (n c:Nat) (seed:ByteArray) (z:Int) (wx:World):Prop where
 par:wx.heap[w.heap.size]?=some (.cells cs 30 (0,0))
 trp:wx.heap[w.heap.size+1]?=some (.cells #[.string P,.string Q] 35 (0,0))
 tap:wx.heap[w.heap.size+1+1]?=some (.cells #[.slice A n c,.string seed,.int .i64 z] 39 (0,0))
 res:wx.heap[w.heap.size+1+1+1]?=some (.cells #[.slice none 0 0,.string ⟨#[]⟩,.int .i64 0] 39 (0,0))
 bel:Below w.heap.size w wx
section
variable {w wx wy:World} {cs:Array Value} {P Q:ByteArray} {A:Option Addr} {n c:Nat} {seed:ByteArray} {z:Int} {x y t:Value}
theorem ExB.lt (h:ExB w cs P Q A n c seed z wx):w.heap.size+1+1+1<wx.heap.size:=(Array.getElem?_eq_some_iff.1 h.res).1
theorem ExB.next (h:ExB w cs P Q A n c seed z wx) (hb:Below wx.heap.size wx wy):ExB w cs P Q A n c seed z wy:=by
 have l:=h.lt;exact ⟨(hb.block _ (by omega)).trans h.par,(hb.block _ (by omega)).trans h.trp,(hb.block _ (by omega)).trans h.tap,(hb.block _ l).trans h.res,h.bel.trans (hb.mono h.bel.size)⟩
theorem ExB.box (h:ExB w cs P Q A n c seed z wx) (ob:Obj):ExB w cs P Q A n c seed z (wx.alloc ob):=h.next ((Below.refl _ _).alloc (Nat.le_refl _) _)
theorem ExB.drew (h:ExB w cs P Q A n c seed z wx):ExB w cs P Q A n c seed z wx.drew:=h.next (Below.refl _ _).drew
theorem ExB.start (w:World) (cs:Array Value) (P Q:ByteArray) (A:Option Addr) (n c:Nat) (seed:ByteArray) (z:Int) :
  ExB w cs P Q A n c seed z ((((w.alloc (.cells cs 30)).alloc (.cells #[.string P,.string Q] 35)).alloc (.cells #[.slice A n c,.string seed,.int .i64 z] 39)).alloc (.cells #[.slice none 0 0,.string ⟨#[]⟩,.int .i64 0] 39)):=by
 have e0:=heap_alloc_new w (.cells cs 30);have e1:=heap_alloc_new (w.alloc (.cells cs 30)) (.cells #[.string P,.string Q] 35);have e2:=heap_alloc_new ((w.alloc (.cells cs 30)).alloc (.cells #[.string P,.string Q] 35)) (.cells #[.slice A n c,.string seed,.int .i64 z] 39);have e3:=heap_alloc_new (((w.alloc (.cells cs 30)).alloc (.cells #[.string P,.string Q] 35)).alloc (.cells #[.slice A n c,.string seed,.int .i64 z] 39)) (.cells #[.slice none 0 0,.string ⟨#[]⟩,.int .i64 0] 39);simp only [World.size_alloc] at e1 e2 e3;refine ⟨?_,?_,?_,e3,?_⟩
 · exact (Below.heap_alloc _ _ _ (by simp;omega)).trans ((Below.heap_alloc _ _ _ (by simp;omega)).trans ((Below.heap_alloc _ _ _ (by simp)).trans e0))
 · exact (Below.heap_alloc _ _ _ (by simp<;>omega)).trans ((Below.heap_alloc _ _ _ (by simp)).trans e1)
 · exact (Below.heap_alloc _ _ _ (by simp)).trans e2
 · exact ((((Below.refl _ _).alloc (Nat.le_refl _) _).alloc (by simp) _).alloc (by simp;omega) _).alloc (by simp;omega) _
theorem ExB.tc (h:ExB w cs P Q A n c seed z wx):wx.cell? ⟨w.heap.size+1+1,0,none⟩=some (.slice A n c)∧wx.cell? ⟨w.heap.size+1+1,1,none⟩=some (.string seed)∧wx.cell? ⟨w.heap.size+1+1,2,none⟩=some (.int .i64 z) ∧
  wx.frozen? ⟨w.heap.size+1+1,0,none⟩=false∧wx.frozen? ⟨w.heap.size+1+1,1,none⟩=false∧wx.frozen? ⟨w.heap.size+1+1,2,none⟩=false:=by
 refine ⟨?_,?_,?_,?_,?_,?_⟩<;>simp [World.cell?,World.frozen?,h.tap]
theorem ExB.rc (h:ExB w cs P Q A n c seed z wx):wx.cell? ⟨w.heap.size+1+1+1,0,none⟩=some (.slice none 0 0)∧wx.cell? ⟨w.heap.size+1+1+1,1,none⟩=some (.string ⟨#[]⟩)∧wx.cell? ⟨w.heap.size+1+1+1,2,none⟩=some (.int .i64 0) ∧
  wx.frozen? ⟨w.heap.size+1+1+1,0,none⟩=false∧wx.frozen? ⟨w.heap.size+1+1+1,1,none⟩=false∧wx.frozen? ⟨w.heap.size+1+1+1,2,none⟩=false:=by
 refine ⟨?_,?_,?_,?_,?_,?_⟩<;>simp [World.cell?,World.frozen?,h.res]
theorem ExB.gc (h:ExB w cs P Q A n c seed z wx):wx.cell? ⟨w.heap.size+1,0,none⟩=some (.string P)∧wx.cell? ⟨w.heap.size+1,1,none⟩=some (.string Q):=by
 refine ⟨?_,?_⟩<;>simp [World.cell?,h.trp]
theorem ExB.bel3 (h:ExB w cs P Q A n c seed z wx):Below w.heap.size w (((wx.setCell ⟨w.heap.size+1+1+1,0,none⟩ x).setCell ⟨w.heap.size+1+1+1,1,none⟩ y).setCell ⟨w.heap.size+1+1+1,2,none⟩ t):=by
 have le:w.heap.size≤w.heap.size+1+1+1:=Nat.le_add_right _ 3;exact ((h.bel.setCell (p:=⟨w.heap.size+1+1+1,0,none⟩) le x).setCell (p:=⟨w.heap.size+1+1+1,1,none⟩) le y).setCell (p:=⟨w.heap.size+1+1+1,2,none⟩) le t
theorem row3_set {W:World} {g:Nat} {T:TypeId} {a b d a' b' d':Value} (h:W.heap[g]?=some (.cells #[a,b,d] T (0,0))) :
  (((W.setCell ⟨g,0,none⟩ a').setCell ⟨g,1,none⟩ b').setCell ⟨g,2,none⟩ d').heap[g]?=some (.cells #[a',b',d'] T (0,0)):=by
 simp [World.setCell,Array.getElem?_modify,h]
theorem ExB.put {A':Option Addr} {n' c':Nat} {seed':ByteArray} {z':Int} (h:ExB w cs P Q A n c seed z wx) :
  ExB w cs P Q A' n' c' seed' z' (((wx.setCell ⟨w.heap.size+1+1,0,none⟩ (.slice A' n' c')).setCell ⟨w.heap.size+1+1,1,none⟩ (.string seed')).setCell ⟨w.heap.size+1+1,2,none⟩ (.int .i64 z')):=by
 have le:w.heap.size≤w.heap.size+1+1:=Nat.le_add_right _ 2
 have hp:∀ (b:Nat),b≠w.heap.size+1+1→(((wx.setCell ⟨w.heap.size+1+1,0,none⟩ (.slice A' n' c')).setCell ⟨w.heap.size+1+1,1,none⟩ (.string seed')).setCell ⟨w.heap.size+1+1,2,none⟩ (.int .i64 z')).heap[b]?=wx.heap[b]?:=fun b hb =>
  (Below.heap_setCell _ _ _ _ hb).trans ((Below.heap_setCell _ _ _ _ hb).trans (Below.heap_setCell _ _ _ _ hb))
 exact ⟨(hp _ (by omega)).trans h.par,(hp _ (by omega)).trans h.trp,row3_set h.tap,(hp _ (by omega)).trans h.res,((h.bel.setCell (p:=⟨w.heap.size+1+1,0,none⟩) le _).setCell (p:=⟨w.heap.size+1+1,1,none⟩) le _).setCell (p:=⟨w.heap.size+1+1,2,none⟩) le _⟩
theorem ExB.pc {ch sl mm mo mg mh wm wo wg wh se at_ ha el es bl ma:ByteArray} (h:ExB w #[.string ch,.string sl,.string mm,.string mo,.string mg,.string mh,.string wm,.string wo,.string wg,.string wh,.string se,.string at_,.string ha,.string el,.string es,.string bl,.string ma] P Q A n c seed z wx) :
  wx.cell? ⟨w.heap.size,13,none⟩=some (.string el)∧wx.cell? ⟨w.heap.size,14,none⟩=some (.string es):=⟨cell_of_row wx _ 13 _ _ _ h.par,cell_of_row wx _ 14 _ _ _ h.par⟩
end
end Go.Proofs.YtiacajjpkncomaaGreatDoor
namespace Go.Proofs.YtiacajjpkncomaaGreatDoor
open Go.RowKit
set_option maxRecDepth 100000
set_option linter.unusedVariables false
set_option maxHeartbeats 8000000
theorem isPS_lt {x:Nat} (h:(isPS (B x)).2=0):x<18446744073709551616:=by
 unfold isPS smallS at h
 split at h
 · split at h
   · rename_i h1
     exact B_size_le'.1 h1
   · exact absurd h (by decide)
 · exact absurd h (by decide)
theorem zi_next2 {z zi:Int} {i:Nat} (h:zi=z+(i:Int)):z+((i+1:Nat):Int)=zi+1:=by rw [h];omega
theorem cl_Exponent (P:Int) (ch sl mm mo mg mh wm wo wg wh se at_ ha el es bl ma tp tq:ByteArray) (vals:List ByteArray) (A:Option Addr) (n c:Nat) (seed:ByteArray) (z:Int) (w:World) (hn:vals.length=n) (hm:n≤1000) (h:SLs w w.heap.size A vals) (hs:seed.size≤100000)
  (hT:Tab w)
  (hCB:∀ (A':Option Addr) (c' m:Nat) (zi:Int) (wq:World),1≤m→m<18446744073709551616→SLs wq wq.heap.size A' vals→Below w.heap.size w wq→Calls Tryz.prog 22 #[.agg #[.slice A' n c',.string seed,.int .i64 zi],.string (B m)] wq fun e w'=>drawPostF wq.heap.size (belowS vals seed zi m) n seed zi vals e w'∧Below wq.heap.size wq w') (sel:el.size≤8) (ses:es.size≤8) (hPv:P=0→(valid el=true∧valid es=true)∧2≤num el∧2≤num es)
  (hP:∀ wq,Below w.heap.size w wq→Calls Tryz.prog 19 #[.agg #[.string ch,.string sl,.string mm,.string mo,.string mg,.string mh,.string wm,.string wo,.string wg,.string wh,.string se,.string at_,.string ha,.string el,.string es,.string bl,.string ma]] wq fun e w'=>e=.returned (.int .i64 P)∧Below wq.heap.size wq w')
  (hDM:∀ (x:Nat) (wq:World),2≤x→x<18446744073709551616→Calls Tryz.prog 25 #[.string (B (num (orderS tp tq).1)),.string (B x)] wq fun e w'=>e=.returned (.tuple #[.string (B (num (orderS tp tq).1/x)),.string (B (num (orderS tp tq).1%x)),.int .i64 0])∧Below wq.heap.size wq w') :
  Calls Tryz.prog 7 #[.agg #[.string ch,.string sl,.string mm,.string mo,.string mg,.string mh,.string wm,.string wo,.string wg,.string wh,.string se,.string at_,.string ha,.string el,.string es,.string bl,.string ma],.agg #[.string tp,.string tq],.agg #[.slice A n c,.string seed,.int .i64 z]] w fun e w'=>searchPostF w.heap.size (expD P vals seed tp tq el es z) n seed vals e w'∧Below w.heap.size w w':=by
 have HA0:=Lib.hid (ExB.start w #[.string ch,.string sl,.string mm,.string mo,.string mg,.string mh,.string wm,.string wo,.string wg,.string wh,.string se,.string at_,.string ha,.string el,.string es,.string bl,.string ma] tp tq A n c seed z);obtain ⟨W0,hW0⟩:∃ W0,((((w.alloc (.cells #[.string ch,.string sl,.string mm,.string mo,.string mg,.string mh,.string wm,.string wo,.string wg,.string wh,.string se,.string at_,.string ha,.string el,.string es,.string bl,.string ma] 30)).alloc (.cells #[.string tp,.string tq] 35)).alloc (.cells #[.slice A n c,.string seed,.int .i64 z] 39)).alloc (.cells #[.slice none 0 0,.string ⟨#[]⟩,.int .i64 0] 39))=W0:=⟨_,rfl⟩;rw [hW0] at HA0;have HKP:=Lib.hid hP;have HS:=Lib.hid h;have KG:=Lib.hid (fun wq (h1:SLs wq wq.heap.size A vals)=>cl_goodTape vals A n c seed z wq hn (by omega) h1);have KO:=Lib.hid (fun w hT=>rsagroup_Order tp tq w hT);have HT:=Lib.hid hT;have HCB:=Lib.hid hCB;have hD:expD P vals seed tp tq el es z=if P=0 then (if goodT vals z=true then (if (orderS tp tq).2=0 then expL vals seed (num el) (num es) (num (orderS tp tq).1) 64 z else ((orderS tp tq).2,0,0)) else (3,0,0)) else (P,0,0):=rfl
 obtain ⟨D,hDD⟩:∃ D,D=expD P vals seed tp tq el es z:=⟨_,rfl⟩;rw [← hDD] at hD ⊢;have hod:=@orderS_ok tp tq;obtain ⟨ob,hob⟩:∃ ob,ob=(orderS tp tq).1:=⟨_,rfl⟩;obtain ⟨oe,hoe⟩:∃ oe,oe=(orderS tp tq).2:=⟨_,rfl⟩;rw [← hob,← hoe] at hod;rw [← hob,← hoe] at hD;rw [← hob] at hDM;simp only [← hob,← hoe] at KO;have HHS:=Lib.hid (And.intro hs hm);have HN:=Lib.hid hn;have HPV:=Lib.hid hPv;have HDM:=Lib.hid hDM;have HOD:=Lib.hid hod;have HSZ:=Lib.hid (And.intro sel ses);clear hP hDD hn hm h hs hT hCB sel ses hPv hDM hod hob hoe;by_cases h0:P=0
 · subst h0
   rw [if_pos rfl] at hD;obtain ⟨gt,hgt⟩:∃ gt,goodT vals z=gt:=⟨_,rfl⟩;rw [hgt] at hD KG;clear hgt
   cases gt
   · have HD:=Lib.hid (hD.trans (if_neg (by decide)))
     clear hD
     go_enter Tryz.func7, Tryz.ntmps7
     go_wp2_with fail;go_step3;go_wp2_with (first|(go_at_call 19;(with_reducible refine (HKP.out _ HA0.out.bel).mono ?_);rintro e w1 ⟨rfl,hb1⟩;have HA1:=Lib.hid (HA0.out.next hb1);obtain ⟨t0,t1,t2,f0,f1,f2⟩:=HA1.out.tc;obtain ⟨g0,g1⟩:=HA1.out.gc;obtain ⟨r0,r1,r2,q0,q1,q2⟩:=HA1.out.rc;clear hb1)|(go_at_call 20;(with_reducible refine (KG.out _ (HS.out.to HA1.out.bel)).mono ?_);rintro e w2 ⟨rfl,hb2⟩;have HA2:=Lib.hid (HA1.out.next hb2);obtain ⟨t0,t1,t2,f0,f1,f2⟩:=HA2.out.tc;obtain ⟨g0,g1⟩:=HA2.out.gc;obtain ⟨r0,r1,r2,q0,q1,q2⟩:=HA2.out.rc;clear hb2)|(with_reducible refine wpList_look ?_;refine wpList_load_row rfl 30 _ rfl _ rfl 30 #[.string ch,.string sl,.string mm,.string mo,.string mg,.string mh,.string wm,.string wo,.string wg,.string wh,.string se,.string at_,.string ha,.string el,.string es,.string bl,.string ma] (0,0) _ HA0.out.par Tryz.underlying30 rfl (info17'.trans rfl) ?_));rw [Exit.noGoto_ret];exact bodyPost_ret (v:=.tuple #[.string ⟨#[]⟩,.agg #[.slice none 0 0,.string ⟨#[]⟩,.int .i64 0],.int .i64 3]) (by simp [results,Tryz.results7,go_sem,r0,r1,r2]) rfl ⟨by rw [HD.out];exact .inr ⟨by decide,rfl⟩,HA2.out.bel3⟩
   · have hD:=hD.trans (if_pos rfl)
     by_cases ho:oe=0
     · subst ho
       have hD:=hD.trans (if_pos rfl);obtain ⟨hob,hol⟩:=HOD.out rfl;obtain ⟨od,hod⟩:∃ od,od=num ob:=⟨_,rfl⟩;rw [← hod] at hob hol hD;have HDM2:Hid (∀ (x:Nat) (wq:World),2≤x→x<18446744073709551616→Calls Tryz.prog 25 #[.string (B od),.string (B x)] wq fun e w'=>e=.returned (.tuple #[.string (B (od/x)),.string (B (od%x)),.int .i64 0])∧Below wq.heap.size wq w'):=Lib.hid (by rw [hod];exact HDM.out);rw [hob] at KO;clear HDM hob hod HOD;have hv:=HPV.out rfl;obtain ⟨EL,rfl⟩:∃ EL,el=B EL:=⟨num el,(B_num hv.1.1).symm⟩;obtain ⟨ES,rfl⟩:∃ ES,es=B ES:=⟨num es,(B_num hv.1.2).symm⟩;rw [num_B,num_B] at hv hD;have hEL:EL<18446744073709551616:=B_size_le'.1 HSZ.out.1;have hES:ES<18446744073709551616:=B_size_le'.1 HSZ.out.2;have HV:=Lib.hid (And.intro hv.2.1 (And.intro hv.2.2 (And.intro hEL hES)));obtain ⟨T,hT2⟩:∃ T,T=64:=⟨_,rfl⟩;rw [← hT2] at hD;have HTT:=Lib.hid hT2;have HD:=Lib.hid hD;clear hD hT2 hv hEL hES hol HSZ HPV
       go_enter Tryz.func7, Tryz.ntmps7
       go_wp2_with fail;go_step3;go_wp2_with (first|(go_at_call 19;(with_reducible refine (HKP.out _ HA0.out.bel).mono ?_);rintro e w1 ⟨rfl,hb1⟩;have HA1:=Lib.hid (HA0.out.next hb1);obtain ⟨t0,t1,t2,f0,f1,f2⟩:=HA1.out.tc;obtain ⟨g0,g1⟩:=HA1.out.gc;obtain ⟨r0,r1,r2,q0,q1,q2⟩:=HA1.out.rc;clear hb1)|(go_at_call 20;(with_reducible refine (KG.out _ (HS.out.to HA1.out.bel)).mono ?_);rintro e w2 ⟨rfl,hb2⟩;have HA2:=Lib.hid (HA1.out.next hb2);obtain ⟨t0,t1,t2,f0,f1,f2⟩:=HA2.out.tc;obtain ⟨g0,g1⟩:=HA2.out.gc;obtain ⟨r0,r1,r2,q0,q1,q2⟩:=HA2.out.rc;clear hb2)|(go_at_call 21;(with_reducible refine (KO.out _ (HT.out.below HA2.out.bel)).mono ?_);rintro e w3 ⟨rfl,hb3⟩;have HA3:=Lib.hid (HA2.out.next hb3);obtain ⟨r0,r1,r2,q0,q1,q2⟩:=HA3.out.rc;clear hb3)|(with_reducible refine wpList_look ?_;refine wpList_load_row rfl 30 _ rfl _ rfl 30 #[.string ch,.string sl,.string mm,.string mo,.string mg,.string mh,.string wm,.string wo,.string wg,.string wh,.string se,.string at_,.string ha,.string (B EL),.string (B ES),.string bl,.string ma] (0,0) _ HA0.out.par Tryz.underlying30 rfl (info17'.trans rfl) ?_))
       try clear t0 t1 t2 f0 f1 f2 g0 g1
       try clear r0 r1 r2 q0 q1 q2
       go_step3;go_wp2_with fail;go_loopw [39] (fun v wr=>∃ (i:Nat) (A':Option Addr) (c':Nat),v=.int .i64 i∧i≤64∧ExB w #[.string ch,.string sl,.string mm,.string mo,.string mg,.string mh,.string wm,.string wo,.string wg,.string wh,.string se,.string at_,.string ha,.string (B EL),.string (B ES),.string bl,.string ma] tp tq A' n c' seed (z+i) wr∧SLs wr wr.heap.size A' vals∧expL vals seed EL ES od (T-i) (z+i)=D) (fun v _=>T-(intOf v).toNat)
       case atStart=>exact ⟨0,A,c,rfl,by decide,by simpa using HA3.out,(HS.out.to HA3.out.bel),by rw [HD.out];simp⟩
       case round =>
        clear HA0 HA1 HA2 HA3 HD KO KG HKP;obtain ⟨i,A',c',rfl,hi,hat,hsl,hse⟩:=hrel;have HA:=Lib.hid hat;have HSL:=Lib.hid hsl;have HSE:=Lib.hid hse;clear hat hsl hse;by_cases hlt:i<64
        · obtain ⟨zi,hzi⟩:∃ zi,zi=z+(i:Int):=⟨_,rfl⟩
          rw [← hzi] at HA HSE;obtain ⟨d,hd⟩:∃ d,d=belowS vals seed zi ES:=⟨_,rfl⟩;have hKB:=HCB.out A' c' ES zi wr (by have:=HV.out.2.1;omega) HV.out.2.2.2 HSL.out HA.out.bel;rw [← hd] at hKB;obtain ⟨t0,t1,t2,f0,f1,f2⟩:=HA.out.tc;obtain ⟨p13,p14⟩:=HA.out.pc;have p1:decide ((i:Int)<64)=true:=by rw [decide_eq_true_eq];omega
          have HLT:=Lib.hid hlt;have HZI:=Lib.hid hzi;have HDD:=Lib.hid hd;by_cases h0:d.1=0
          · have hx:d.2<ES:=by rw [hd];exact belowS_lt (by have:=HV.out.2.1;omega) (by rw [← hd];exact h0)
            obtain ⟨cc,hcc⟩:∃ cc,cc=d.2:=⟨_,rfl⟩
            have KE:=Lib.hid (hKB.mono (R':=fun e w'=>(∃ g,e=.returned (.tuple #[.string (B cc),.agg #[.slice (some ⟨g,0,none⟩) n n,.string seed,.int .i64 (zi+1)],.int .i64 0])∧SLs w' w'.heap.size (some ⟨g,0,none⟩) vals∧wr.heap.size≤g)∧Below wr.heap.size wr w') (by
             rintro e w' ⟨⟨_,hp⟩|⟨h,_⟩,hb⟩
             · rw [hcc];exact ⟨hp,hb⟩
             · exact absurd h0 h))
            rw [← hcc] at hx;obtain ⟨x,hxx⟩:∃ x,x=EL+cc:=⟨_,rfl⟩
            have KA:Hid (∀ w,Calls Tryz.prog 23 #[.string (B EL),.string (B cc)] w fun e w'=>e=.returned (.tuple #[.string (B x),.int .i64 0])∧Below w.heap.size w w'):=Lib.hid (fun w=>by
             have h1:=HV.out.2.2.1;have h2:=HV.out.2.2.2;rw [hxx];have h3:36893488147419103232<lim:=by decide
             exact natural_AddV EL cc w (u64_lt_lim h1) (u64_lt_lim (by omega)) (by omega))
            have KI:=Lib.hid (fun w hT=>prime_IsK (B x) w hT);have hx2:2≤x:=by have:=HV.out.1;omega
            have hxe:x=EL+(belowS vals seed zi ES).2:=by rw [hxx,hcc,hd]
            have h00:(belowS vals seed zi ES).1=0:=by rw [← hd];exact h0
            have hLT2:=@isPS_lt x;have hERR:=@expL_bad vals seed EL ES od (T-i-1) x zi h00 hxe;have hHIT:=@expL_hit vals seed EL ES od (T-i-1) x zi h00 hxe;have hON:=@expL_on vals seed EL ES od (T-i-1) x zi h00 hxe;rw [show T-i-1+1=T-i by have:=HTT.out;have:=HLT.out;omega,HSE.out] at hERR hHIT hON;obtain ⟨pb,hpb⟩:∃ pb,(isPS (B x)).1=pb:=⟨_,rfl⟩;obtain ⟨pe,hpe⟩:∃ pe,(isPS (B x)).2=pe:=⟨_,rfl⟩;simp only [hpb,hpe] at KI hERR hHIT hON hLT2;have HX2:=Lib.hid hx2
            have HON:Hid (pe=0→(pb&&decide (od%x≠0))=false→expL vals seed EL ES od (T-(i+1)) (z+(i+1:Nat))=D):=Lib.hid (fun h1 h2=>by
             have h3:=hON h1 h2;rw [zi_next2 HZI.out,show T-(i+1)=T-i-1 by omega]
             exact h3.symm)
            have HHIT:=Lib.hid hHIT;have HERR:=Lib.hid hERR;have HLT2:=Lib.hid hLT2;clear hKB hlt hzi hd h0 hi hx hcc hxx hx2 hxe h00 hERR hHIT hON hpb hpe hLT2 HDD HSE;by_cases hpe:pe=0
            · subst hpe
              cases pb
              · have HSE2:=Lib.hid (HON.out rfl rfl)
                clear HON HHIT HERR HLT2 HX2;go_wp2_with (first|(go_at_call 22;(with_reducible refine KE.out.mono ?_);rintro e w2 ⟨⟨g,rfl,hsl,hgf⟩,hb2⟩;have HA2:=Lib.hid (HA.out.next hb2);have HSL2:=Lib.hid hsl;have HG:=Lib.hid hgf;have HA3:=Lib.hid (HA2.out.box (.cells #[.slice (some ⟨g,0,none⟩) n n,.string seed,.int .i64 (zi+1)] 39));have lt2:=HA2.out.lt;obtain ⟨t0,t1,t2,f0,f1,f2⟩:=HA3.out.tc;obtain ⟨p13,p14⟩:=HA3.out.pc;have e2:¬ w2.heap.size=w.heap.size+1+1:=by { omega };have e3:¬ w.heap.size+1+1=w2.heap.size:=by { omega };have e4:¬ w2.heap.size=w.heap.size:=by { omega };have e5:¬ w.heap.size=w2.heap.size:=by { omega };clear hb2 hsl lt2 hgf)|(go_at_call 23;have HA4:=Lib.hid (HA3.out.put (A':=(some ⟨g,0,none⟩)) (n':=n) (c':=n) (seed':=seed) (z':=zi+1));(with_reducible refine (KA.out _).mono ?_);rintro e w6 ⟨rfl,hb6⟩;have HA6:=Lib.hid (HA4.out.next hb6);have HSL6:Hid (SLs w6 w6.heap.size (some ⟨g,0,none⟩) vals):=Lib.hid (SLs.last HSL2.out t0 hb6);clear hb6)|(go_at_call 24;(with_reducible refine (KI.out _ (HT.out.below HA6.out.bel)).mono ?_);rintro e w7 ⟨rfl,hb7⟩;have HA7:=Lib.hid (HA6.out.next hb7);have HSL7:=Lib.hid (HSL6.out.to hb7);obtain ⟨r0,r1,r2,q0,q1,q2⟩:=HA7.out.rc;clear hb7))
                first
                 | exact ⟨⟨i+1,_,_,step64 (Nat.lt_trans HLT.out (by decide)),HLT.out,by have:=HA7.out;rwa [← zi_next2 HZI.out] at this,HSL7.out,HSE2.out⟩,measT (by rw [HTT.out];exact HLT.out) (Nat.lt_trans HLT.out (by decide))⟩
                 | (go_roundw
                    case rel=>exact ⟨i+1,_,_,step64 (Nat.lt_trans HLT.out (by decide)),HLT.out,by have:=HA7.out;rwa [← zi_next2 HZI.out] at this,HSL7.out,HSE2.out⟩
                    case measure=>exact measT (by rw [HTT.out];exact HLT.out) (Nat.lt_trans HLT.out (by decide)))
              · have KD:=Lib.hid (fun w=>HDM2.out x w HX2.out (HLT2.out rfl))
                obtain ⟨qq,hqq⟩:∃ qq,od/x=qq:=⟨_,rfl⟩;obtain ⟨rr,hrr⟩:∃ rr,od%x=rr:=⟨_,rfl⟩;rw [hqq,hrr] at KD;rw [hrr] at HON HHIT;clear hqq hrr HLT2;by_cases hr:rr=0
                · subst hr
                  have HSE2:=Lib.hid (HON.out rfl rfl);have he:=B_isEmpty_true;clear HON HHIT HERR HX2;go_wp2_with (first|(go_at_call 22;(with_reducible refine KE.out.mono ?_);rintro e w2 ⟨⟨g,rfl,hsl,hgf⟩,hb2⟩;have HA2:=Lib.hid (HA.out.next hb2);have HSL2:=Lib.hid hsl;have HG:=Lib.hid hgf;have HA3:=Lib.hid (HA2.out.box (.cells #[.slice (some ⟨g,0,none⟩) n n,.string seed,.int .i64 (zi+1)] 39));have lt2:=HA2.out.lt;obtain ⟨t0,t1,t2,f0,f1,f2⟩:=HA3.out.tc;obtain ⟨p13,p14⟩:=HA3.out.pc;have e2:¬ w2.heap.size=w.heap.size+1+1:=by { omega };have e3:¬ w.heap.size+1+1=w2.heap.size:=by { omega };have e4:¬ w2.heap.size=w.heap.size:=by { omega };have e5:¬ w.heap.size=w2.heap.size:=by { omega };clear hb2 hsl lt2 hgf)|(go_at_call 23;have HA4:=Lib.hid (HA3.out.put (A':=(some ⟨g,0,none⟩)) (n':=n) (c':=n) (seed':=seed) (z':=zi+1));(with_reducible refine (KA.out _).mono ?_);rintro e w6 ⟨rfl,hb6⟩;have HA6:=Lib.hid (HA4.out.next hb6);have HSL6:Hid (SLs w6 w6.heap.size (some ⟨g,0,none⟩) vals):=Lib.hid (SLs.last HSL2.out t0 hb6);clear hb6)|(go_at_call 24;(with_reducible refine (KI.out _ (HT.out.below HA6.out.bel)).mono ?_);rintro e w7 ⟨rfl,hb7⟩;have HA7:=Lib.hid (HA6.out.next hb7);have HSL7:=Lib.hid (HSL6.out.to hb7);obtain ⟨r0,r1,r2,q0,q1,q2⟩:=HA7.out.rc;clear hb7)|(go_at_call 25;(with_reducible refine (KD.out _).mono ?_);rintro e w8 ⟨rfl,hb8⟩;have HA8:=Lib.hid (HA7.out.next hb8);have HSL8:=Lib.hid (HSL7.out.to hb8);clear hb8));go_roundw
                  case rel=>exact ⟨i+1,_,_,step64 (Nat.lt_trans HLT.out (by decide)),HLT.out,by have:=HA8.out;rwa [← zi_next2 HZI.out] at this,HSL8.out,HSE2.out⟩
                  case measure=>exact measT (by rw [HTT.out];exact HLT.out) (Nat.lt_trans HLT.out (by decide))
                · have HDE:=Lib.hid (HHIT.out rfl (by rw [Bool.true_and,decide_eq_true_eq];exact hr))
                  have he:=B_isEmpty_false hr;clear HON HHIT HERR HX2 hr;go_wp2_with (first|(go_at_call 22;(with_reducible refine KE.out.mono ?_);rintro e w2 ⟨⟨g,rfl,hsl,hgf⟩,hb2⟩;have HA2:=Lib.hid (HA.out.next hb2);have HSL2:=Lib.hid hsl;have HG:=Lib.hid hgf;have HA3:=Lib.hid (HA2.out.box (.cells #[.slice (some ⟨g,0,none⟩) n n,.string seed,.int .i64 (zi+1)] 39));have lt2:=HA2.out.lt;obtain ⟨t0,t1,t2,f0,f1,f2⟩:=HA3.out.tc;obtain ⟨p13,p14⟩:=HA3.out.pc;have e2:¬ w2.heap.size=w.heap.size+1+1:=by { omega };have e3:¬ w.heap.size+1+1=w2.heap.size:=by { omega };have e4:¬ w2.heap.size=w.heap.size:=by { omega };have e5:¬ w.heap.size=w2.heap.size:=by { omega };clear hb2 hsl lt2 hgf)|(go_at_call 23;have HA4:=Lib.hid (HA3.out.put (A':=(some ⟨g,0,none⟩)) (n':=n) (c':=n) (seed':=seed) (z':=zi+1));(with_reducible refine (KA.out _).mono ?_);rintro e w6 ⟨rfl,hb6⟩;have HA6:=Lib.hid (HA4.out.next hb6);have HSL6:Hid (SLs w6 w6.heap.size (some ⟨g,0,none⟩) vals):=Lib.hid (SLs.last HSL2.out t0 hb6);clear hb6)|(go_at_call 24;(with_reducible refine (KI.out _ (HT.out.below HA6.out.bel)).mono ?_);rintro e w7 ⟨rfl,hb7⟩;have HA7:=Lib.hid (HA6.out.next hb7);have HSL7:=Lib.hid (HSL6.out.to hb7);obtain ⟨r0,r1,r2,q0,q1,q2⟩:=HA7.out.rc;clear hb7)|(go_at_call 25;(with_reducible refine (KD.out _).mono ?_);rintro e w8 ⟨rfl,hb8⟩;have HA8:=Lib.hid (HA7.out.next hb8);have HSL8:=Lib.hid (HSL7.out.to hb8);clear hb8));obtain ⟨t0,t1,t2,f0,f1,f2⟩:=HA8.out.tc
                  obtain ⟨r0,r1,r2,q0,q1,q2⟩:=HA8.out.rc;go_region_held3 (fun w'=>w'.cell? ⟨w.heap.size+1+1,0,none⟩=some (.slice (some ⟨g,0,none⟩) n n)∧w'.cell? ⟨w.heap.size+1+1,1,none⟩=some (.string seed)∧w'.cell? ⟨w.heap.size+1+1,2,none⟩=some (.int .i64 (zi+1))) (first|go_keep) (first|fail)
                  all_goals
                   go_wp2_with fail;rw [Exit.noGoto_ret];refine bodyPost_ret (v:=.tuple #[.string (B x),.agg #[.slice (some ⟨g,0,none⟩) n n,.string seed,.int .i64 (zi+1)],.int .i64 0]) (by simp [results,Tryz.results7,go_sem,r0,r1,r2]) rfl ⟨by { rw [HDE.out];exact .inl ⟨rfl,g,rfl,(by first|exact SLs.put0' HSL8.out r0|exact SLs.put0' (SLs.to HSL8.out (Below.refl _ _).drew) r0|exact SLs.to (SLs.put0' HSL8.out r0) (Below.refl _ _).drew),Nat.le_trans HA.out.bel.size HG.out⟩ },by first|exact HA8.out.bel3|exact HA8.out.drew.bel3|exact HA8.out.bel3.drew⟩
            · have HDE:=Lib.hid (HERR.out hpe)
              have HPE:=Lib.hid hpe;have k6:(pe != 0)=true:=by simpa using hpe
              clear HON HHIT HERR HX2 HLT2 hpe;go_wp2_with (first|(go_at_call 22;(with_reducible refine KE.out.mono ?_);rintro e w2 ⟨⟨g,rfl,hsl,hgf⟩,hb2⟩;have HA2:=Lib.hid (HA.out.next hb2);have HSL2:=Lib.hid hsl;have HG:=Lib.hid hgf;have HA3:=Lib.hid (HA2.out.box (.cells #[.slice (some ⟨g,0,none⟩) n n,.string seed,.int .i64 (zi+1)] 39));have lt2:=HA2.out.lt;obtain ⟨t0,t1,t2,f0,f1,f2⟩:=HA3.out.tc;obtain ⟨p13,p14⟩:=HA3.out.pc;have e2:¬ w2.heap.size=w.heap.size+1+1:=by { omega };have e3:¬ w.heap.size+1+1=w2.heap.size:=by { omega };have e4:¬ w2.heap.size=w.heap.size:=by { omega };have e5:¬ w.heap.size=w2.heap.size:=by { omega };clear hb2 hsl lt2 hgf)|(go_at_call 23;have HA4:=Lib.hid (HA3.out.put (A':=(some ⟨g,0,none⟩)) (n':=n) (c':=n) (seed':=seed) (z':=zi+1));(with_reducible refine (KA.out _).mono ?_);rintro e w6 ⟨rfl,hb6⟩;have HA6:=Lib.hid (HA4.out.next hb6);have HSL6:Hid (SLs w6 w6.heap.size (some ⟨g,0,none⟩) vals):=Lib.hid (SLs.last HSL2.out t0 hb6);clear hb6)|(go_at_call 24;(with_reducible refine (KI.out _ (HT.out.below HA6.out.bel)).mono ?_);rintro e w7 ⟨rfl,hb7⟩;have HA7:=Lib.hid (HA6.out.next hb7);have HSL7:=Lib.hid (HSL6.out.to hb7);obtain ⟨r0,r1,r2,q0,q1,q2⟩:=HA7.out.rc;clear hb7));rw [Exit.noGoto_ret];exact bodyPost_ret (v:=.tuple #[.string ⟨#[]⟩,.agg #[.slice none 0 0,.string ⟨#[]⟩,.int .i64 0],.int .i64 pe]) (by simp [results,Tryz.results7,go_sem,r0,r1,r2]) rfl ⟨by rw [HDE.out];exact .inr ⟨HPE.out,rfl⟩,HA7.out.bel3⟩
          · have KE:=Lib.hid (hKB.mono (R':=fun e w'=>e=.returned (.tuple #[.string ⟨#[]⟩,.agg #[.slice none 0 0,.string ⟨#[]⟩,.int .i64 0],.int .i64 d.1])∧Below wr.heap.size wr w') (by
             rintro e w' ⟨⟨h,_⟩|⟨_,hp⟩,hb⟩
             · exact absurd h h0
             · exact ⟨hp,hb⟩))
            have hDe:D=(d.1,0,0):=by
             rw [← HSE.out,hd,show T-i=(T-i-1)+1 by have:=HTT.out;have:=HLT.out;omega];exact expL_err (by rw [← hd];exact h0)
            obtain ⟨er,her⟩:∃ er,er=d.1:=⟨_,rfl⟩;have hne:(er==0)=false:=by rw [her,beq_eq_false_iff_ne];exact h0
            have hne2:(er != 0)=true:=by rw [her];simpa using h0
            rw [← her] at KE hDe;have HER:=Lib.hid (show er≠0 by rw [her];exact h0);have HDE:=Lib.hid hDe;clear hKB hlt hzi hd h0 hDe hi her;go_wp2_with (first|(go_at_call 22;(with_reducible refine KE.out.mono ?_);rintro e w2 ⟨rfl,hb2⟩;have HA2:=Lib.hid (HA.out.next hb2);have HA3:=Lib.hid (HA2.out.box (.cells #[.slice none 0 0,.string ⟨#[]⟩,.int .i64 0] 39));have lt2:=HA2.out.lt;obtain ⟨r0,r1,r2,q0,q1,q2⟩:=HA2.out.rc;have e4:¬ w2.heap.size=w.heap.size+1+1+1:=by { omega };have e5:¬ w.heap.size+1+1+1=w2.heap.size:=by { omega };have ltx:=HA2.out.lt;clear hb2 lt2));rw [Exit.noGoto_ret];exact bodyPost_ret (v:=.tuple #[.string ⟨#[]⟩,.agg #[.slice none 0 0,.string ⟨#[]⟩,.int .i64 0],.int .i64 er]) (by simp [results,Tryz.results7,go_sem,r0,r1,r2,ltx]) rfl ⟨by rw [HDE.out];exact .inr ⟨HER.out,rfl⟩,by first|exact HA3.out.bel3|exact HA2.out.bel3.alloc (by have:=HA2.out.lt;simp;omega) _⟩
        · have p1:decide ((i:Int)<64)=false:=by rw [decide_eq_false_iff_not];omega
          have hDe:D=(12,0,0):=by
           rw [← HSE.out,show T-i=0 by have:=HTT.out;omega];rfl
          have HDE:=Lib.hid hDe;obtain ⟨r0,r1,r2,q0,q1,q2⟩:=HA.out.rc;clear hlt hDe hi;go_wp2_with fail;rw [Exit.noGoto_ret];exact bodyPost_ret (v:=.tuple #[.string ⟨#[]⟩,.agg #[.slice none 0 0,.string ⟨#[]⟩,.int .i64 0],.int .i64 12]) (by simp [results,Tryz.results7,go_sem,r0,r1,r2]) rfl ⟨by rw [HDE.out];exact .inr ⟨by decide,rfl⟩,HA.out.bel3⟩
     · have HD:=Lib.hid (hD.trans (if_neg ho))
       have HO:=Lib.hid ho;have k5:(oe != 0)=true:=by simpa using ho
       clear hD ho HDM HOD
       go_enter Tryz.func7, Tryz.ntmps7
       go_wp2_with fail;go_step3;go_wp2_with (first|(go_at_call 19;(with_reducible refine (HKP.out _ HA0.out.bel).mono ?_);rintro e w1 ⟨rfl,hb1⟩;have HA1:=Lib.hid (HA0.out.next hb1);obtain ⟨t0,t1,t2,f0,f1,f2⟩:=HA1.out.tc;obtain ⟨g0,g1⟩:=HA1.out.gc;obtain ⟨r0,r1,r2,q0,q1,q2⟩:=HA1.out.rc;clear hb1)|(go_at_call 20;(with_reducible refine (KG.out _ (HS.out.to HA1.out.bel)).mono ?_);rintro e w2 ⟨rfl,hb2⟩;have HA2:=Lib.hid (HA1.out.next hb2);obtain ⟨t0,t1,t2,f0,f1,f2⟩:=HA2.out.tc;obtain ⟨g0,g1⟩:=HA2.out.gc;obtain ⟨r0,r1,r2,q0,q1,q2⟩:=HA2.out.rc;clear hb2)|(go_at_call 21;(with_reducible refine (KO.out _ (HT.out.below HA2.out.bel)).mono ?_);rintro e w3 ⟨rfl,hb3⟩;have HA3:=Lib.hid (HA2.out.next hb3);obtain ⟨r0,r1,r2,q0,q1,q2⟩:=HA3.out.rc;clear hb3)|(with_reducible refine wpList_look ?_;refine wpList_load_row rfl 30 _ rfl _ rfl 30 #[.string ch,.string sl,.string mm,.string mo,.string mg,.string mh,.string wm,.string wo,.string wg,.string wh,.string se,.string at_,.string ha,.string el,.string es,.string bl,.string ma] (0,0) _ HA0.out.par Tryz.underlying30 rfl (info17'.trans rfl) ?_));rw [Exit.noGoto_ret];exact bodyPost_ret (v:=.tuple #[.string ⟨#[]⟩,.agg #[.slice none 0 0,.string ⟨#[]⟩,.int .i64 0],.int .i64 oe]) (by simp [results,Tryz.results7,go_sem,r0,r1,r2]) rfl ⟨by rw [HD.out];exact .inr ⟨HO.out,rfl⟩,HA3.out.bel3⟩
 · have HD:=Lib.hid (hD.trans (if_neg h0))
   have HP0:=Lib.hid h0;have k4:(P != 0)=true:=by simpa using h0
   clear hD h0
   go_enter Tryz.func7, Tryz.ntmps7
   go_wp2_with fail;go_step3;go_wp2_with (first|(go_at_call 19;(with_reducible refine (HKP.out _ HA0.out.bel).mono ?_);rintro e w1 ⟨rfl,hb1⟩;have HA1:=Lib.hid (HA0.out.next hb1);obtain ⟨t0,t1,t2,f0,f1,f2⟩:=HA1.out.tc;obtain ⟨g0,g1⟩:=HA1.out.gc;obtain ⟨r0,r1,r2,q0,q1,q2⟩:=HA1.out.rc;clear hb1)|(with_reducible refine wpList_look ?_;refine wpList_load_row rfl 30 _ rfl _ rfl 30 #[.string ch,.string sl,.string mm,.string mo,.string mg,.string mh,.string wm,.string wo,.string wg,.string wh,.string se,.string at_,.string ha,.string el,.string es,.string bl,.string ma] (0,0) _ HA0.out.par Tryz.underlying30 rfl (info17'.trans rfl) ?_));rw [Exit.noGoto_ret];exact bodyPost_ret (v:=.tuple #[.string ⟨#[]⟩,.agg #[.slice none 0 0,.string ⟨#[]⟩,.int .i64 0],.int .i64 P]) (by simp [results,Tryz.results7,go_sem,r0,r1,r2]) rfl ⟨by rw [HD.out];exact .inr ⟨HP0.out,rfl⟩,HA1.out.bel3⟩
end Go.Proofs.YtiacajjpkncomaaGreatDoor
