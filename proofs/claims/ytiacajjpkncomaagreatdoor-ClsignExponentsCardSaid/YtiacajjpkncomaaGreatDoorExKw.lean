/- What Verify answers, in plain words; the walk of clsign.Verify, over a contract of params.Check given as a hypothesis. -/
import Derived.Test.YtiacajjpkncomaaGreatDoorExJ9
import Derived.Test.YtiacajjpkncomaaGreatDoorExJA
import Derived.Test.YtiacajjpkncomaaGreatDoorExJB
import Derived.Deep.DeepCutAuto
import Derived.Deep.RegionHeld3
namespace Go.Proofs.YtiacajjpkncomaaGreatDoor
open Go.RowKit
set_option maxRecDepth 100000
set_option linter.unusedVariables false
set_option maxHeartbeats 8000000
def belS (x l sz:ByteArray):Bool:=decide (num l≤num x)&&decide (num x-num l<num sz)
def rangS (el es bl E V:ByteArray):Bool:=belS E el es&&!(decide (num bl≤num V)&&decide (num bl≤num V-num bl))
def eqS (m s z A E V:ByteArray) (M:Nat):Bool:=(B (msgV m [A,s,B M] [E,V,B 1])).toList==z.toList
def verA (m o s z A E V el es bl:ByteArray) (M:Nat):Int :=
 if rangS el es bl E V=true then (if (isPS E).2=0 then (if (isPS E).1=true then (if hasG m o A=true then (if eqS m s z A E V M=true then 0 else 19) else 13) else 12) else (isPS E).2) else 2
def verS (K:Int) (m o s z se ha at_ el es bl A E V:ByteArray) (rs ats:List ByteArray):Int :=
 if K=0 then (if (ats.all valid&&[A,E,V].all valid)=true then (if attE se ha at_ rs ats=0 then verA m o s z A E V el es bl (msgV m rs ats) else attE se ha at_ rs ats) else 3) else K
theorem sub_ok {a b:ByteArray} (ha:valid a=true) (hb:valid b=true) (h:num b≤num a):natSub a b=(B (num a-num b),0):=by
 unfold natSub;rw [ha,hb];simp;omega
theorem sub_no {a b:ByteArray} (ha:valid a=true) (hb:valid b=true) (h:num a<num b):natSub a b=(E0,2):=by
 unfold natSub;rw [ha,hb];simp;omega
theorem natural_SubOk (a b:ByteArray) (w:World) (ha:valid a=true) (hb:valid b=true) (h:num b≤num a):Calls Tryz.prog 42 #[.string a,.string b] w fun e w'=>e=.returned (.tuple #[.string (B (num a-num b)),.int .i64 0])∧Below w.heap.size w w':=by
 have:=natural_Sub a b w;rw [sub_ok ha hb h] at this;exact this
theorem natural_SubNo (a b:ByteArray) (w:World) (ha:valid a=true) (hb:valid b=true) (h:num a<num b):Calls Tryz.prog 42 #[.string a,.string b] w fun e w'=>e=.returned (.tuple #[.string E0,.int .i64 2])∧Below w.heap.size w w':=by
 have:=natural_Sub a b w;rw [sub_no ha hb h] at this;exact this
theorem cmp_geB {x:Nat} {b:ByteArray} (hx:x<lim) (hb:valid b=true):decide ((0:Int)≤natCmp (B x) b)=!decide (x<num b):=by
 have:=cmp_ge (valid_B hx) hb;rw [num_B] at this;exact this
theorem SLs.mkAt (w:World) (t:Nat) (ls:List ByteArray) (k:Nat) (hk:w.heap.size=k):SLs (w.alloc (.cells (ls.map Value.string).toArray t)) (k+1) (some ⟨k,0,none⟩) ls:=by
 subst hk;exact SLs.new w t ls (w.heap.size+1) (by omega)
structure VkAt (w:World) (cs ks vs:Array Value) (A A2:Option Addr) (rs ats:List ByteArray) (W:World):Prop where
 par:W.heap[w.heap.size]?=some (.cells cs 30 (0,0))
 key:W.heap[w.heap.size+1]?=some (.cells ks 33 (0,0))
 sig:W.heap[w.heap.size+1+1]?=some (.cells vs 59 (0,0))
 row:SLs W w.heap.size A rs
 att:SLs W w.heap.size A2 ats
 bel:Below w.heap.size w W
 tab:Tab W
theorem VkAt.lt {w:World} {cs ks vs:Array Value} {A A2:Option Addr} {rs ats:List ByteArray} {W:World} (k:VkAt w cs ks vs A A2 rs ats W):w.heap.size+1+1<W.heap.size:=(Array.getElem?_eq_some_iff.1 k.sig).1
theorem VkAt.next {w:World} {cs ks vs:Array Value} {A A2:Option Addr} {rs ats:List ByteArray} {W W':World} (k:VkAt w cs ks vs A A2 rs ats W) (hb:Below W.heap.size W W'):VkAt w cs ks vs A A2 rs ats W':=by
 have l2:=k.lt;exact ⟨(hb.block _ (by omega)).trans k.par,(hb.block _ (by omega)).trans k.key,(hb.block _ l2).trans k.sig,k.row.below (hb.mono k.bel.size),k.att.below (hb.mono k.bel.size),k.bel.trans (hb.mono k.bel.size),k.tab.below hb⟩
theorem VkAt.drew {w:World} {cs ks vs:Array Value} {A A2:Option Addr} {rs ats:List ByteArray} {W:World} (k:VkAt w cs ks vs A A2 rs ats W):VkAt w cs ks vs A A2 rs ats W.drew:=k.next ((Below.refl _ _).drew)
theorem VkAt.alloc {w:World} {cs ks vs:Array Value} {A A2:Option Addr} {rs ats:List ByteArray} {W:World} (k:VkAt w cs ks vs A A2 rs ats W) (ob:Obj):VkAt w cs ks vs A A2 rs ats (W.alloc ob):=k.next ((Below.refl _ _).alloc (Nat.le_refl _) _)
theorem VkAt.start (w:World) (cs ks vs:Array Value) (A A2:Option Addr) (rs ats:List ByteArray) (h1:SLs w w.heap.size A rs) (h2:SLs w w.heap.size A2 ats) (hT:Tab w) :
  VkAt w cs ks vs A A2 rs ats (((w.alloc (.cells cs 30)).alloc (.cells ks 33)).alloc (.cells vs 59)):=by
 have k:=PkAt.start w cs ks A A2 rs ats h1 h2;have hz:((w.alloc (.cells cs 30)).alloc (.cells ks 33)).heap.size=w.heap.size+1+1:=by simp
 have hn:=heap_alloc_new ((w.alloc (.cells cs 30)).alloc (.cells ks 33)) (.cells vs 59);rw [hz] at hn;have k':=k.next ((Below.refl _ _).alloc (Nat.le_refl _) (.cells vs 59));exact ⟨k'.par,k'.key,hn,k'.row,k'.att,k'.bel,((hT.alloc _).alloc _).alloc _⟩
theorem VkAt.vc {w:World} {cs ks:Array Value} {sA sE sV:ByteArray} {A A2:Option Addr} {rs ats:List ByteArray} {W:World} (k:VkAt w cs ks #[.string sA,.string sE,.string sV] A A2 rs ats W) :
  W.cell? ⟨w.heap.size+1+1,0,none⟩=some (.string sA)∧W.cell? ⟨w.heap.size+1+1,1,none⟩=some (.string sE)∧W.cell? ⟨w.heap.size+1+1,2,none⟩=some (.string sV) :=
 ⟨cell_of_row W _ 0 _ _ _ k.sig,cell_of_row W _ 1 _ _ _ k.sig,cell_of_row W _ 2 _ _ _ k.sig⟩
theorem VkAt.pc {w:World} {ch sl mm mo mg mh wm wo wg wh se at_ ha el es bl ma:ByteArray} {ks vs:Array Value} {A A2:Option Addr} {rs ats:List ByteArray} {W:World} (k:VkAt w #[.string ch,.string sl,.string mm,.string mo,.string mg,.string mh,.string wm,.string wo,.string wg,.string wh,.string se,.string at_,.string ha,.string el,.string es,.string bl,.string ma] ks vs A A2 rs ats W) :
  W.cell? ⟨w.heap.size,13,none⟩=some (.string el)∧W.cell? ⟨w.heap.size,14,none⟩=some (.string es)∧W.cell? ⟨w.heap.size,15,none⟩=some (.string bl) :=
 ⟨cell_of_row W _ 13 _ _ _ k.par,cell_of_row W _ 14 _ _ _ k.par,cell_of_row W _ 15 _ _ _ k.par⟩
theorem VkAt.kc {w:World} {cs vs:Array Value} {nm m o z s u h:ByteArray} {A A2:Option Addr} {n c:Nat} {rs ats:List ByteArray} {W:World} (k:VkAt w cs #[.string nm,.string m,.string o,.string z,.string s,.slice A n c,.string u,.string h] vs A A2 rs ats W) :
  W.cell? ⟨w.heap.size+1,1,none⟩=some (.string m)∧W.cell? ⟨w.heap.size+1,2,none⟩=some (.string o)∧W.cell? ⟨w.heap.size+1,3,none⟩=some (.string z)∧W.cell? ⟨w.heap.size+1,4,none⟩=some (.string s) :=
 ⟨cell_of_row W _ 1 _ _ _ k.key,cell_of_row W _ 2 _ _ _ k.key,cell_of_row W _ 3 _ _ _ k.key,cell_of_row W _ 4 _ _ _ k.key⟩
theorem VkAt.sf {w:World} {cs:Array Value} {nm m o z s u h sA sE sV:ByteArray} {A A2:Option Addr} {n c:Nat} {rs ats:List ByteArray} {W:World} (k:VkAt w cs #[.string nm,.string m,.string o,.string z,.string s,.slice A n c,.string u,.string h] #[.string sA,.string sE,.string sV] A A2 rs ats W) :
  W.cell? ⟨w.heap.size+1,1,none⟩=some (.string m)∧W.cell? ⟨w.heap.size+1,2,none⟩=some (.string o)∧W.cell? ⟨w.heap.size+1,4,none⟩=some (.string s)∧W.cell? ⟨w.heap.size+1+1,0,none⟩=some (.string sA)∧W.cell? ⟨w.heap.size+1+1,1,none⟩=some (.string sE)∧W.cell? ⟨w.heap.size+1+1,2,none⟩=some (.string sV) :=
 ⟨k.kc.1,k.kc.2.1,k.kc.2.2.2,k.vc.1,k.vc.2.1,k.vc.2.2⟩
theorem sls_row3 {w:World} {g:Nat} {T:TypeId} {x y z:ByteArray} (h:w.heap[g]?=some (.cells #[.string x,.string y,.string z] T (0,0))):SLs w w.heap.size (some ⟨g,0,none⟩) [x,y,z] :=
 SLs.of_row (fun j hj=>by
  rw [cell_of_row w g j _ _ _ h]
  rcases j with _|_|_|j
  · rfl
  · rfl
  · rfl
  · simp at hj;omega) (Array.getElem?_eq_some_iff.1 h).1
theorem zls_row3 {w:World} {g:Nat} {T:TypeId} {b1 b2 b3:Bool} {x y z:ByteArray} (h:w.heap[g]?=some (.cells #[.bool b1,.string x,.bool b2,.string y,.bool b3,.string z] T (0,0))):ZLs w w.heap.size (some ⟨g,0,none⟩) [(b1,x),(b2,y),(b3,z)]:=fun _=>by
 refine ⟨g,rfl,(Array.getElem?_eq_some_iff.1 h).1,fun j hj=>?_⟩;rw [cell_of_row w g _ _ _ _ h,cell_of_row w g _ _ _ _ h]
 rcases j with _|_|_|j
 · exact ⟨rfl,rfl⟩
 · exact ⟨rfl,rfl⟩
 · exact ⟨rfl,rfl⟩
 · simp at hj;omega
theorem cl_Verify (P:Int) (ch sl mm mo mg mh wm wo wg wh se at_ ha el es bl ma nm m o z s u h sA sE sV:ByteArray) (A A2:Option Addr) (n n2 c c2:Nat) (rs ats:List ByteArray) (w:World) (sm:m.size≤8) (snm:nm.size≤100000)
  (hn:rs.length=n) (hn2:ats.length=n2) (hm:n≤1000) (hm2:n2≤1000) (hs:SLs w w.heap.size A rs) (hs2:SLs w w.heap.size A2 ats) (hT:Tab w) (hPv:P=0→(valid se=true∧valid ha=true∧valid at_=true)∧valid el=true∧valid es=true∧valid bl=true)
  (hP:∀ wq,Below w.heap.size w wq→Calls Tryz.prog 19 #[.agg #[.string ch,.string sl,.string mm,.string mo,.string mg,.string mh,.string wm,.string wo,.string wg,.string wh,.string se,.string at_,.string ha,.string el,.string es,.string bl,.string ma]] wq fun e w'=>e=.returned (.int .i64 P)∧Below wq.heap.size wq w') :
  Calls Tryz.prog 18 #[.agg #[.string ch,.string sl,.string mm,.string mo,.string mg,.string mh,.string wm,.string wo,.string wg,.string wh,.string se,.string at_,.string ha,.string el,.string es,.string bl,.string ma],
   .agg #[.string nm,.string m,.string o,.string z,.string s,.slice A n c,.string u,.string h],.slice A2 n2 c2,.agg #[.string sA,.string sE,.string sV]] w fun e w'=>e=.returned (.int .i64 (verS (keyE P nm m o z s u h rs) m o s z se ha at_ el es bl sA sE sV rs ats))∧Below w.heap.size w w':=by
 have HS0:=VkAt.start w #[.string ch,.string sl,.string mm,.string mo,.string mg,.string mh,.string wm,.string wo,.string wg,.string wh,.string se,.string at_,.string ha,.string el,.string es,.string bl,.string ma] #[.string nm,.string m,.string o,.string z,.string s,.slice A n c,.string u,.string h] #[.string sA,.string sE,.string sV] A A2 rs ats hs hs2 hT;have KK:=Lib.hid (fun (wq:World) (h1:Below w.heap.size w wq)=>iss_Check P ch sl mm mo mg mh wm wo wg wh se at_ ha el es bl ma nm m o z s u h A n c rs wq sm snm hn hm (hs.below h1 |>.more h1.size) (fun wq2 h2=>hP wq2 (h1.trans (h2.mono h1.size))));have KF:=Lib.hid (fun (wq:World) (h1:SLs wq w.heap.size A2 ats)=>cl_formed ats A2 n2 c2 w.heap.size wq hn2 (by omega) h1);have KF2:=Lib.hid (fun (wq:World) A1 b1 (h1:SLs wq b1 A1 [sA,sE,sV])=>cl_formed [sA,sE,sV] A1 3 3 b1 wq rfl (by omega) h1);have HZ:=Lib.hid (@keyE_zero P nm m o z s u h rs);obtain ⟨K,hK⟩:∃ K,keyE P nm m o z s u h rs=K:=⟨_,rfl⟩;rw [hK] at KK HZ ⊢;obtain ⟨R,hR⟩:∃ R,verS K m o s z se ha at_ el es bl sA sE sV rs ats=R:=⟨_,rfl⟩;rw [hR]
 obtain ⟨W0,hW0⟩:∃ W0,((w.alloc (.cells #[.string ch,.string sl,.string mm,.string mo,.string mg,.string mh,.string wm,.string wo,.string wg,.string wh,.string se,.string at_,.string ha,.string el,.string es,.string bl,.string ma] 30)).alloc (.cells #[.string nm,.string m,.string o,.string z,.string s,.slice A n c,.string u,.string h] 33)).alloc (.cells #[.string sA,.string sE,.string sV] 59)=W0:=⟨_,rfl⟩;rw [hW0] at HS0;have HS:=Lib.hid HS0;clear HS0 hK;by_cases h0:K=0
 · subst h0
   have hkey:=HZ.out rfl
   cases hv:ats.all valid
   · have HE:Hid (R=3):=Lib.hid (by rw [← hR];unfold verS;rw [hv];rfl)
     rw [hv] at KF;clear hv hkey hs hs2 hPv hP sm snm hn hn2 hT hR
     go_enter Tryz.func18, Tryz.ntmps18
     go_wp2_with (first|(go_at_call 33;(with_reducible refine (KK.out _ HS.out.bel).mono ?_);rintro e w1 ⟨rfl,hb1⟩;have HS1:=Lib.hid (HS.out.next hb1);obtain ⟨a1,a2,a3⟩:=HS1.out.vc;clear hb1)|(with_reducible refine wpList_look ?_;refine wpList_load_row rfl 30 _ rfl _ rfl 30 #[.string ch,.string sl,.string mm,.string mo,.string mg,.string mh,.string wm,.string wo,.string wg,.string wh,.string se,.string at_,.string ha,.string el,.string es,.string bl,.string ma] (0,0) _ HS.out.par Tryz.underlying30 rfl (info17'.trans rfl) ?_)|(with_reducible refine wpList_look ?_;refine wpList_load_row rfl 33 _ rfl _ rfl 33 #[.string nm,.string m,.string o,.string z,.string s,.slice A n c,.string u,.string h] (0,0) _ HS.out.key Tryz.underlying33 rfl (info8'.trans rfl) ?_))
     with_reducible refine (KF.out _ HS1.out.att).mono ?_
     rintro e w2 ⟨rfl,rfl⟩;go_wp2_with fail;go_ret;exact ⟨by rw [HE.out];rfl,HS1.out.bel⟩
   · rw [hv] at KF
     cases hv2:[sA,sE,sV].all valid
     · have HE:Hid (R=3):=Lib.hid (by rw [← hR];unfold verS;rw [hv,hv2];rfl)
       rw [hv2] at KF2;clear hv hv2 hkey hs hs2 hPv hP sm snm hn hn2 hT hR
       go_enter Tryz.func18, Tryz.ntmps18
       go_wp2_with (first|(go_at_call 33;(with_reducible refine (KK.out _ HS.out.bel).mono ?_);rintro e w1 ⟨rfl,hb1⟩;have HS1:=Lib.hid (HS.out.next hb1);obtain ⟨a1,a2,a3⟩:=HS1.out.vc;clear hb1)|(with_reducible refine wpList_look ?_;refine wpList_load_row rfl 30 _ rfl _ rfl 30 #[.string ch,.string sl,.string mm,.string mo,.string mg,.string mh,.string wm,.string wo,.string wg,.string wh,.string se,.string at_,.string ha,.string el,.string es,.string bl,.string ma] (0,0) _ HS.out.par Tryz.underlying30 rfl (info17'.trans rfl) ?_)|(with_reducible refine wpList_look ?_;refine wpList_load_row rfl 33 _ rfl _ rfl 33 #[.string nm,.string m,.string o,.string z,.string s,.slice A n c,.string u,.string h] (0,0) _ HS.out.key Tryz.underlying33 rfl (info8'.trans rfl) ?_))
       with_reducible refine (KF.out _ HS1.out.att).mono ?_
       rintro e w2 ⟨rfl,rfl⟩;go_wp2_with (go_at_call 34;(refine (KF2.out _ _ _ (SLs.mkAt _ 22 [sA,sE,sV] _ rfl)).mono ?_);rintro e w2 ⟨rfl,rfl⟩;have HS2:=Lib.hid (HS1.out.alloc (.cells #[.string sA,.string sE,.string sV] 22)));go_ret;exact ⟨by rw [HE.out];rfl,HS2.out.bel⟩
     · rw [hv2] at KF2
       have HR0:Hid (R=if attE se ha at_ rs ats=0 then verA m o s z sA sE sV el es bl (msgV m rs ats) else attE se ha at_ rs ats):=Lib.hid (by rw [← hR];unfold verS;rw [hv,hv2];rfl);clear hR;obtain ⟨⟨v1,v2,v3⟩,vel,ves,vbl⟩:=hPv hkey.p0;have vA:valid sA=true:=by simp only [List.all_cons,Bool.and_eq_true] at hv2;exact hv2.1
       have vE:valid sE=true:=by simp only [List.all_cons,Bool.and_eq_true] at hv2;exact hv2.2.1
       have vV:valid sV=true:=by simp only [List.all_cons,Bool.and_eq_true] at hv2;exact hv2.2.2.1
       have KM:=Lib.hid (fun (wq:World) (h1:Below w.heap.size w wq)=>cl_message ch sl mm mo mg mh wm wo wg wh se at_ ha el es bl ma nm m o z s u h A A2 n n2 c c2 rs ats wq sm hkey.hg hkey.ho hkey.two hkey.hrs hn hn2 hm hm2 (hs.below h1 |>.more h1.size) (hs2.below h1 |>.more h1.size) hv v1 v2 v3);have hme:msgA m se ha at_ rs ats=if attE se ha at_ rs ats=0 then (B (msgV m rs ats),0) else (⟨#[]⟩,attE se ha at_ rs ats):=rfl
       have KX:=Lib.hid (fun (x:ByteArray) (w:World)=>power_Has m o x w sm);have HMSG:Hid (hasG m o (B (msgV m rs ats))=true):=Lib.hid (hasG_msg sm hkey.ho hkey.hs hkey.two hkey.hrs);have HKEY:=Lib.hid hkey;have HSM:=Lib.hid sm;have HVEL:=Lib.hid (And.intro vE (And.intro vV (And.intro vel (And.intro ves vbl))));have KSub:=Lib.hid (fun a b w=>natural_Sub a b w);have KC:=Lib.hid (fun a b w=>natural_Cmp a b w);have KI:=Lib.hid (fun (w:World) (hT:Tab w)=>prime_IsK sE w hT);obtain ⟨M,hM⟩:∃ M,msgV m rs ats=M:=⟨_,rfl⟩;rw [hM] at hme HMSG HR0;obtain ⟨ae,hae⟩:∃ ae,attE se ha at_ rs ats=ae:=⟨_,rfl⟩;rw [hae] at hme HR0;rw [hme] at KM;clear hme hM hae hv hv2 hkey hs hs2 hPv hP sm snm hn hn2 hT v1 v2 v3 vel ves vbl vA vE vV;by_cases h1:ae=0
       · subst h1
         rw [if_pos rfl] at KM;have HR1:Hid (R=verA m o s z sA sE sV el es bl M):=HR0;clear HR0
         go_enter Tryz.func18, Tryz.ntmps18
         go_wp2_with (first|(go_at_call 33;(with_reducible refine (KK.out _ HS.out.bel).mono ?_);rintro e w1 ⟨rfl,hb1⟩;have HS1:=Lib.hid (HS.out.next hb1);obtain ⟨a1,a2,a3⟩:=HS1.out.vc;clear hb1)|(with_reducible refine wpList_look ?_;refine wpList_load_row rfl 30 _ rfl _ rfl 30 #[.string ch,.string sl,.string mm,.string mo,.string mg,.string mh,.string wm,.string wo,.string wg,.string wh,.string se,.string at_,.string ha,.string el,.string es,.string bl,.string ma] (0,0) _ HS.out.par Tryz.underlying30 rfl (info17'.trans rfl) ?_)|(with_reducible refine wpList_look ?_;refine wpList_load_row rfl 33 _ rfl _ rfl 33 #[.string nm,.string m,.string o,.string z,.string s,.slice A n c,.string u,.string h] (0,0) _ HS.out.key Tryz.underlying33 rfl (info8'.trans rfl) ?_))
         with_reducible refine (KF.out _ HS1.out.att).mono ?_
         rintro e w2 ⟨rfl,rfl⟩;go_upto_region 6 with (go_at_call 34;(refine (KF2.out _ _ _ (SLs.mkAt _ 22 [sA,sE,sV] _ rfl)).mono ?_);rintro e w2 ⟨rfl,rfl⟩;have HS2:=Lib.hid (HS1.out.alloc (.cells #[.string sA,.string sE,.string sV] 22)))
         go_wp2_with (first|(go_at_call 35;(with_reducible refine (KM.out _ HS2.out.bel).mono ?_);rintro e w3 ⟨rfl,hb3⟩;have HS3:=Lib.hid (HS2.out.next hb3);obtain ⟨a1,a2,a3⟩:=HS3.out.vc;obtain ⟨q1,q2,q3⟩:=HS3.out.pc;clear hb3)|(with_reducible refine wpList_look ?_;refine wpList_load_row rfl 30 _ rfl _ rfl 30 #[.string ch,.string sl,.string mm,.string mo,.string mg,.string mh,.string wm,.string wo,.string wg,.string wh,.string se,.string at_,.string ha,.string el,.string es,.string bl,.string ma] (0,0) _ HS2.out.par Tryz.underlying30 rfl (info17'.trans rfl) ?_)|(with_reducible refine wpList_look ?_;refine wpList_load_row rfl 33 _ rfl _ rfl 33 #[.string nm,.string m,.string o,.string z,.string s,.slice A n c,.string u,.string h] (0,0) _ HS2.out.key Tryz.underlying33 rfl (info8'.trans rfl) ?_));by_cases h2:num el≤num sE
         · have KS1:=Lib.hid (fun w=>natural_SubOk sE el w HVEL.out.1 HVEL.out.2.2.1 h2)
           have hdl:num sE-num el<lim:=Nat.lt_of_le_of_lt (Nat.sub_le _ _) (valid_num_lt HVEL.out.1);have hcg:=cmp_geB hdl HVEL.out.2.2.2.1;have hb1:belS sE el es=decide (num sE-num el<num es):=by unfold belS;rw [decide_eq_true h2,Bool.true_and]
           obtain ⟨d,hd⟩:∃ d,num sE-num el=d:=⟨_,rfl⟩;rw [hd] at hcg KS1 hb1;have KC1:=Lib.hid (fun w=>KC.out (B d) es w);obtain ⟨cv,hcv⟩:∃ cv,natCmp (B d) es=cv:=⟨_,rfl⟩;rw [hcv] at hcg KC1;by_cases h3:d<num es
           · rw [decide_eq_true h3] at hcg hb1
             obtain ⟨vb,hvb⟩:∃ vb,(decide (num bl≤num sV)&&decide (num bl≤num sV-num bl))=vb:=⟨_,rfl⟩
             have HR2:Hid (R=if vb=true then 2 else (if (isPS sE).2=0 then (if (isPS sE).1=true then (if hasG m o sA=true then (if eqS m s z sA sE sV M=true then 0 else 19) else 13) else 12) else (isPS sE).2)):=Lib.hid (by
              rw [HR1.out];unfold verA rangS;rw [hb1,hvb];cases vb<;>rfl)
             obtain ⟨dv,ev,hsv,hvb2⟩:∃ dv ev,natSub sV bl=(dv,ev)∧vb=(decide (ev=0)&&decide ((0:Int)≤natCmp dv bl)):=by
              by_cases h4:num bl≤num sV
              · refine ⟨_,_,sub_ok HVEL.out.2.1 HVEL.out.2.2.2.2 h4,?_⟩
                rw [← hvb,decide_eq_true h4,cmp_geB (Nat.lt_of_le_of_lt (Nat.sub_le _ _) (valid_num_lt HVEL.out.2.1)) HVEL.out.2.2.2.2];by_cases h5:num sV-num bl<num bl
                · rw [decide_eq_true h5,decide_eq_false (by omega)];rfl
                · rw [decide_eq_false h5,decide_eq_true (by omega)];rfl
              · refine ⟨_,_,sub_no HVEL.out.2.1 HVEL.out.2.2.2.2 (by omega),?_⟩
                rw [← hvb,decide_eq_false h4];rfl
             have KS2:Hid (∀ w,Calls Tryz.prog 42 #[.string sV,.string bl] w fun e w'=>e=.returned (.tuple #[.string dv,.int .i64 ev])∧Below w.heap.size w w'):=Lib.hid (fun w=>by have:=KSub.out sV bl w;rw [hsv] at this;exact this);have KC2:=Lib.hid (fun w=>KC.out dv bl w);obtain ⟨cv2,hcv2⟩:∃ cv2,natCmp dv bl=cv2:=⟨_,rfl⟩;rw [hcv2] at KC2 hvb2;have HVB2:=Lib.hid hvb2;clear hd hcv h3 hvb hsv hcv2 hdl hb1 h2 hvb2;go_upto_region 13 with (first|(go_at_call 42;(with_reducible refine (KS1.out _).mono ?_);rintro e w4 ⟨rfl,hb4⟩;have HS4:=Lib.hid (HS3.out.next hb4);obtain ⟨a1,a2,a3⟩:=HS4.out.vc;obtain ⟨q1,q2,q3⟩:=HS4.out.pc;obtain ⟨g1,g2,g3,g4⟩:=HS4.out.kc;clear hb4)|(go_at_call 43;(with_reducible refine (KC1.out _).mono ?_);rintro e w' ⟨rfl,rfl⟩)|(go_at_call 42;(with_reducible refine (KS2.out _).mono ?_);rintro e w5 ⟨rfl,hb5⟩;have HS5:=Lib.hid (HS4.out.next hb5);obtain ⟨a1,a2,a3⟩:=HS5.out.vc;obtain ⟨q1,q2,q3⟩:=HS5.out.pc;obtain ⟨g1,g2,g3,g4⟩:=HS5.out.kc;clear hb5))
             go_cut [80] (fun b wx=>b=.bool vb∧VkAt w #[.string ch,.string sl,.string mm,.string mo,.string mg,.string mh,.string wm,.string wo,.string wg,.string wh,.string se,.string at_,.string ha,.string el,.string es,.string bl,.string ma] #[.string nm,.string m,.string o,.string z,.string s,.slice A n c,.string u,.string h] #[.string sA,.string sE,.string sV] A A2 rs ats wx)
             case first =>
              by_cases h6:ev=0
              · subst h6
                have HV3:Hid (vb=decide ((0:Int)≤cv2)):=Lib.hid (by rw [HVB2.out];rfl);go_wp2_with (go_at_call 43;(with_reducible refine (KC2.out _).mono ?_);rintro e w' ⟨rfl,rfl⟩);go_meet;exact ⟨by rw [HV3.out],HS5.out⟩
              · have HV3:Hid (vb=false):=Lib.hid (by rw [HVB2.out,decide_eq_false h6];rfl)
                have k6:(ev==0)=false:=by rw [beq_eq_false_iff_ne];exact h6
                clear h6;go_wp2_with fail;go_meet;exact ⟨by rw [HV3.out],HS5.out⟩
             case rest =>
              obtain ⟨rfl,hcut⟩:=hcut;have HS6:=Lib.hid hcut;obtain ⟨a1,a2,a3⟩:=hcut.vc;obtain ⟨q1,q2,q3⟩:=hcut.pc;obtain ⟨g1,g2,g3,g4⟩:=hcut.kc;clear hcut HS5 HS4 HS3 HS2 HS1
              cases vb
              · have HR3:Hid (R=if (isPS sE).2=0 then (if (isPS sE).1=true then (if hasG m o sA=true then (if eqS m s z sA sE sV M=true then 0 else 19) else 13) else 12) else (isPS sE).2):=HR2
                obtain ⟨bi,ei,hi⟩:∃ bi ei,isPS sE=(bi,ei):=⟨_,_,rfl⟩;rw [hi] at KI HR3;clear hi;by_cases h7:ei=0
                · subst h7
                  cases bi
                  · have HE:Hid (R=12):=HR3
                    go_wp2_with (go_at_call 24;(with_reducible refine (KI.out _ HS6.out.tab).mono ?_);rintro e w7 ⟨rfl,hb7⟩;have HS7:=Lib.hid (HS6.out.next hb7);obtain ⟨a1,a2,a3⟩:=HS7.out.vc;obtain ⟨q1,q2,q3⟩:=HS7.out.pc;obtain ⟨g1,g2,g3,g4⟩:=HS7.out.kc;clear hb7);go_ret;exact ⟨by rw [HE.out];rfl,HS7.out.bel⟩
                  · have HR4:Hid (R=if hasG m o sA=true then (if eqS m s z sA sE sV M=true then 0 else 19) else 13):=HR3
                    have KX1:Hid (∀ w,Calls Tryz.prog 44 #[.agg #[.string m,.string o],.string sA] w fun e w'=>e=.returned (.bool (hasG m o sA))∧Below w.heap.size w w'):=Lib.hid (fun w=>by have:=KX.out sA w;rw [HKEY.out.hg] at this;exact this)
                    cases hA:hasG m o sA
                    · have HE:Hid (R=13):=Lib.hid (by rw [HR4.out,hA];rfl)
                      rw [hA] at KX1;clear hA;go_wp2_with (first|(go_at_call 24;(with_reducible refine (KI.out _ HS6.out.tab).mono ?_);rintro e w7 ⟨rfl,hb7⟩;have HS7:=Lib.hid (HS6.out.next hb7);obtain ⟨a1,a2,a3⟩:=HS7.out.vc;obtain ⟨q1,q2,q3⟩:=HS7.out.pc;obtain ⟨g1,g2,g3,g4⟩:=HS7.out.kc;clear hb7)|(go_at_call 44;(with_reducible refine (KX1.out _).mono ?_);rintro e w8 ⟨rfl,hb8⟩;have HS8:=Lib.hid (HS7.out.next hb8);obtain ⟨a1,a2,a3⟩:=HS8.out.vc;obtain ⟨q1,q2,q3⟩:=HS8.out.pc;obtain ⟨g1,g2,g3,g4⟩:=HS8.out.kc;clear hb8));go_ret;exact ⟨by rw [HE.out];rfl,HS8.out.bel⟩
                    · have HR5:Hid (R=if eqS m s z sA sE sV M=true then 0 else 19):=Lib.hid (by rw [HR4.out,hA];rfl)
                      rw [hA] at KX1;have HA:=Lib.hid hA;clear hA;go_upto_region 22 with (first|(go_at_call 24;(with_reducible refine (KI.out _ HS6.out.tab).mono ?_);rintro e w7 ⟨rfl,hb7⟩;have HS7:=Lib.hid (HS6.out.next hb7);obtain ⟨a1,a2,a3⟩:=HS7.out.vc;obtain ⟨q1,q2,q3⟩:=HS7.out.pc;obtain ⟨g1,g2,g3,g4⟩:=HS7.out.kc;clear hb7)|(go_at_call 44;(with_reducible refine (KX1.out _).mono ?_);rintro e w8 ⟨rfl,hb8⟩;have HS8:=Lib.hid (HS7.out.next hb8);obtain ⟨a1,a2,a3⟩:=HS8.out.vc;obtain ⟨q1,q2,q3⟩:=HS8.out.pc;obtain ⟨g1,g2,g3,g4⟩:=HS8.out.kc;clear hb8))
                      go_cut [16,11] (fun zz er wx=>zz=.string (B (msgV m [sA,s,B M] [sE,sV,B 1]))∧er=.int .i64 0∧VkAt w #[.string ch,.string sl,.string mm,.string mo,.string mg,.string mh,.string wm,.string wo,.string wg,.string wh,.string se,.string at_,.string ha,.string el,.string es,.string bl,.string ma] #[.string nm,.string m,.string o,.string z,.string s,.slice A n c,.string u,.string h] #[.string sA,.string sE,.string sV] A A2 rs ats wx)
                      case first =>
                       have KP:Hid (∀ (wq:World) ga gz,SLs wq wq.heap.size (some ⟨ga,0,none⟩) [sA,s,B M]→ZLs wq wq.heap.size (some ⟨gz,0,none⟩) [(false,sE),(false,sV),(false,⟨#[1]⟩)]→Calls Tryz.prog 37 #[.agg #[.string m,.string o],.slice (some ⟨ga,0,none⟩) 3 3,.slice (some ⟨gz,0,none⟩) 3 3] wq fun r w'=>r=.returned (.tuple #[.string (B (msgV m [sA,s,B M] [sE,sV,B 1])),.int .i64 0])∧Below wq.heap.size wq w'):=Lib.hid (fun wq ga gz h1 h2=>by
                        have hall:[sA,s,B M].all (hasG m o)=true:=by simp [HA.out,HKEY.out.hs,HMSG.out]
                        have hval:[sE,sV,B 1].all valid=true:=by simp only [List.all_cons,List.all_nil,Bool.and_true,Bool.and_eq_true];exact ⟨HVEL.out.1,HVEL.out.2.1,by decide⟩
                        have:=power_ProductN m o [sA,s,B M] (posZ [sE,sV,B 1]) (some ⟨ga,0,none⟩) (some ⟨gz,0,none⟩) 3 3 3 wq HSM.out HKEY.out.hg hall (posZ_ok hval) (fun r hr=>gcd_of_has HKEY.out.ho (List.all_eq_true.1 hall r hr)) rfl rfl (by omega) HKEY.out.two h1 h2;rw [zipB_pos (num m) [sA,s,B M] [sE,sV,B 1] rfl] at this
                        exact this)
                       have HQ:=HS8;clear HS7 HS6 a1 a2 a3 q1 q2 q3 g1 g2 g3 g4 HS8
                       go_region_held3 (fun w'=>w'.cell? ⟨w.heap.size+1,1,none⟩=some (.string m)∧w'.cell? ⟨w.heap.size+1,2,none⟩=some (.string o)∧w'.cell? ⟨w.heap.size+1,4,none⟩=some (.string s)∧w'.cell? ⟨w.heap.size+1+1,0,none⟩=some (.string sA)∧w'.cell? ⟨w.heap.size+1+1,1,none⟩=some (.string sE)∧w'.cell? ⟨w.heap.size+1+1,2,none⟩=some (.string sV)) (first|exact HQ.out.sf|exact ((HQ.out.alloc _).drew).sf|exact (((HQ.out.alloc _).alloc _).drew).sf|exact HQ.out.drew.sf|exact (HQ.out.alloc _).sf|exact (HQ.out.drew.alloc _).sf|exact ((HQ.out.alloc _).alloc _).sf|exact ((HQ.out.drew.alloc _).alloc _).sf) (first|(go_at_call 38;(with_reducible refine (cl_integer _ _).mono ?_);rintro e wi ⟨rfl,hbq⟩;have nq:VkAt w #[.string ch,.string sl,.string mm,.string mo,.string mg,.string mh,.string wm,.string wo,.string wg,.string wh,.string se,.string at_,.string ha,.string el,.string es,.string bl,.string ma] #[.string nm,.string m,.string o,.string z,.string s,.slice A n c,.string u,.string h] #[.string sA,.string sE,.string sV] A A2 rs ats wi:=(by (first|exact HQ.out.next hbq|exact ((HQ.out.alloc _).drew).next hbq|exact (((HQ.out.alloc _).alloc _).drew).next hbq|exact HQ.out.drew.next hbq|exact (HQ.out.alloc _).next hbq|exact (HQ.out.drew.alloc _).next hbq|exact ((HQ.out.alloc _).alloc _).next hbq|exact ((HQ.out.drew.alloc _).alloc _).next hbq));(first|(have RA:=Lib.hid ((hbq.block _ (by simp)).trans (heap_alloc_new _ (.cells #[.string sA,.string s,.string (B M)] 22))))|(have RA:=Lib.hid ((hbq.block _ (Array.getElem?_eq_some_iff.1 RA.out).1).trans RA.out))|skip);have HQ:=Lib.hid nq;clear nq hbq)|(go_at_call 37;(refine (KP.out _ _ _ (sls_row3 (by (first|exact heap_alloc_new _ _|exact heap_alloc2_new _ _ _|exact heap_alloc2_old _ _ _|exact (heap_alloc_old _ _ (Array.getElem?_eq_some_iff.1 RA.out).1).trans RA.out))) (zls_row3 (by (first|exact heap_alloc_new _ _|exact heap_alloc2_new _ _ _|exact heap_alloc2_old _ _ _|exact (heap_alloc_old _ _ (Array.getElem?_eq_some_iff.1 RA.out).1).trans RA.out)))).mono ?_);rintro e wp ⟨rfl,hbq⟩;have nq:VkAt w #[.string ch,.string sl,.string mm,.string mo,.string mg,.string mh,.string wm,.string wo,.string wg,.string wh,.string se,.string at_,.string ha,.string el,.string es,.string bl,.string ma] #[.string nm,.string m,.string o,.string z,.string s,.slice A n c,.string u,.string h] #[.string sA,.string sE,.string sV] A A2 rs ats wp:=(by (first|exact HQ.out.next hbq|exact ((HQ.out.alloc _).drew).next hbq|exact (((HQ.out.alloc _).alloc _).drew).next hbq|exact HQ.out.drew.next hbq|exact (HQ.out.alloc _).next hbq|exact (HQ.out.drew.alloc _).next hbq|exact ((HQ.out.alloc _).alloc _).next hbq|exact ((HQ.out.drew.alloc _).alloc _).next hbq));have HQ9:=Lib.hid nq;have HQ:=HQ9;clear nq hbq))
                       all_goals
                        go_wp2_with fail;go_meet;exact ⟨rfl,rfl,HQ9.out⟩
                      case rest =>
                       obtain ⟨rfl,rfl,hcut⟩:=hcut;have HS9:=Lib.hid hcut;obtain ⟨g1,g2,g3,g4⟩:=hcut.kc;clear hcut HS8 HS7 HS6 a1 a2 a3 q1 q2 q3;have hre:eqS m s z sA sE sV M=((B (msgV m [sA,s,B M] [sE,sV,B 1])).toList==z.toList):=rfl;obtain ⟨y,hy⟩:∃ y,B (msgV m [sA,s,B M] [sE,sV,B 1])=y:=⟨_,rfl⟩;rw [hy] at hre ⊢;clear hy;obtain ⟨be,hbe⟩:∃ be,(y.toList==z.toList)=be:=⟨_,rfl⟩;rw [hbe] at hre;have HR6:Hid (R=if be=true then 0 else 19):=Lib.hid (by rw [HR5.out,hre]);clear hre
                       cases be
                       · have HE:Hid (R=19):=HR6
                         go_wp2_with fail;go_ret;exact ⟨by rw [HE.out];rfl,HS9.out.bel⟩
                       · have HE:Hid (R=0):=HR6
                         go_wp2_with fail;go_ret;exact ⟨by rw [HE.out];rfl,HS9.out.bel⟩
                · have HE:Hid (R=ei):=Lib.hid (by rw [HR3.out,if_neg h7])
                  have k7:(ei != 0)=true:=by simpa using h7
                  clear h7;go_wp2_with (go_at_call 24;(with_reducible refine (KI.out _ HS6.out.tab).mono ?_);rintro e w7 ⟨rfl,hb7⟩;have HS7:=Lib.hid (HS6.out.next hb7);obtain ⟨a1,a2,a3⟩:=HS7.out.vc;obtain ⟨q1,q2,q3⟩:=HS7.out.pc;obtain ⟨g1,g2,g3,g4⟩:=HS7.out.kc;clear hb7);go_ret;exact ⟨by rw [HE.out];rfl,HS7.out.bel⟩
              · have HE:Hid (R=2):=HR2
                go_wp2_with fail;go_ret;exact ⟨by rw [HE.out];rfl,HS6.out.bel⟩
           · rw [decide_eq_false h3] at hcg hb1
             have HE:Hid (R=2):=Lib.hid (by rw [HR1.out];unfold verA rangS;rw [hb1];rfl);clear hd hcv h3 hdl hb1 h2;go_wp2_with (first|(go_at_call 42;(with_reducible refine (KS1.out _).mono ?_);rintro e w4 ⟨rfl,hb4⟩;have HS4:=Lib.hid (HS3.out.next hb4);obtain ⟨a1,a2,a3⟩:=HS4.out.vc;obtain ⟨q1,q2,q3⟩:=HS4.out.pc;obtain ⟨g1,g2,g3,g4⟩:=HS4.out.kc;clear hb4)|(go_at_call 43;(with_reducible refine (KC1.out _).mono ?_);rintro e w' ⟨rfl,rfl⟩));go_ret;exact ⟨by rw [HE.out];rfl,HS4.out.bel⟩
         · have KS1:=Lib.hid (fun w=>natural_SubNo sE el w HVEL.out.1 HVEL.out.2.2.1 (by omega))
           have HE:Hid (R=2):=Lib.hid (by rw [HR1.out];unfold verA rangS belS;rw [decide_eq_false h2];rfl);clear h2;go_wp2_with (go_at_call 42;(with_reducible refine (KS1.out _).mono ?_);rintro e w4 ⟨rfl,hb4⟩;have HS4:=Lib.hid (HS3.out.next hb4);obtain ⟨a1,a2,a3⟩:=HS4.out.vc;obtain ⟨q1,q2,q3⟩:=HS4.out.pc;obtain ⟨g1,g2,g3,g4⟩:=HS4.out.kc;clear hb4);go_ret;exact ⟨by rw [HE.out];rfl,HS4.out.bel⟩
       · rw [if_neg h1] at KM
         have HE:Hid (R=ae):=Lib.hid (by rw [HR0.out,if_neg h1]);have p1:(ae != 0)=true:=by simpa using h1
         clear h1 HR0
         go_enter Tryz.func18, Tryz.ntmps18
         go_wp2_with (first|(go_at_call 33;(with_reducible refine (KK.out _ HS.out.bel).mono ?_);rintro e w1 ⟨rfl,hb1⟩;have HS1:=Lib.hid (HS.out.next hb1);obtain ⟨a1,a2,a3⟩:=HS1.out.vc;clear hb1)|(with_reducible refine wpList_look ?_;refine wpList_load_row rfl 30 _ rfl _ rfl 30 #[.string ch,.string sl,.string mm,.string mo,.string mg,.string mh,.string wm,.string wo,.string wg,.string wh,.string se,.string at_,.string ha,.string el,.string es,.string bl,.string ma] (0,0) _ HS.out.par Tryz.underlying30 rfl (info17'.trans rfl) ?_)|(with_reducible refine wpList_look ?_;refine wpList_load_row rfl 33 _ rfl _ rfl 33 #[.string nm,.string m,.string o,.string z,.string s,.slice A n c,.string u,.string h] (0,0) _ HS.out.key Tryz.underlying33 rfl (info8'.trans rfl) ?_))
         with_reducible refine (KF.out _ HS1.out.att).mono ?_
         rintro e w2 ⟨rfl,rfl⟩;go_upto_region 6 with (go_at_call 34;(refine (KF2.out _ _ _ (SLs.mkAt _ 22 [sA,sE,sV] _ rfl)).mono ?_);rintro e w2 ⟨rfl,rfl⟩;have HS2:=Lib.hid (HS1.out.alloc (.cells #[.string sA,.string sE,.string sV] 22)))
         go_wp2_with (first|(go_at_call 35;(with_reducible refine (KM.out _ HS2.out.bel).mono ?_);rintro e w3 ⟨rfl,hb3⟩;have HS3:=Lib.hid (HS2.out.next hb3);obtain ⟨a1,a2,a3⟩:=HS3.out.vc;obtain ⟨q1,q2,q3⟩:=HS3.out.pc;clear hb3)|(with_reducible refine wpList_look ?_;refine wpList_load_row rfl 30 _ rfl _ rfl 30 #[.string ch,.string sl,.string mm,.string mo,.string mg,.string mh,.string wm,.string wo,.string wg,.string wh,.string se,.string at_,.string ha,.string el,.string es,.string bl,.string ma] (0,0) _ HS2.out.par Tryz.underlying30 rfl (info17'.trans rfl) ?_)|(with_reducible refine wpList_look ?_;refine wpList_load_row rfl 33 _ rfl _ rfl 33 #[.string nm,.string m,.string o,.string z,.string s,.slice A n c,.string u,.string h] (0,0) _ HS2.out.key Tryz.underlying33 rfl (info8'.trans rfl) ?_));go_ret;exact ⟨by rw [HE.out];rfl,HS3.out.bel⟩
 · have HE:Hid (R=K):=Lib.hid (by rw [← hR];unfold verS;rw [if_neg h0])
   have p0:(K != 0)=true:=by simpa using h0
   clear h0 HZ hs hs2 hPv hP sm snm hn hn2 hT hR
   go_enter Tryz.func18, Tryz.ntmps18
   go_wp2_with (first|(go_at_call 33;(with_reducible refine (KK.out _ HS.out.bel).mono ?_);rintro e w1 ⟨rfl,hb1⟩;have HS1:=Lib.hid (HS.out.next hb1);obtain ⟨a1,a2,a3⟩:=HS1.out.vc;clear hb1)|(with_reducible refine wpList_look ?_;refine wpList_load_row rfl 30 _ rfl _ rfl 30 #[.string ch,.string sl,.string mm,.string mo,.string mg,.string mh,.string wm,.string wo,.string wg,.string wh,.string se,.string at_,.string ha,.string el,.string es,.string bl,.string ma] (0,0) _ HS.out.par Tryz.underlying30 rfl (info17'.trans rfl) ?_)|(with_reducible refine wpList_look ?_;refine wpList_load_row rfl 33 _ rfl _ rfl 33 #[.string nm,.string m,.string o,.string z,.string s,.slice A n c,.string u,.string h] (0,0) _ HS.out.key Tryz.underlying33 rfl (info8'.trans rfl) ?_));go_ret;exact ⟨by rw [HE.out];rfl,HS1.out.bel⟩
end Go.Proofs.YtiacajjpkncomaaGreatDoor
