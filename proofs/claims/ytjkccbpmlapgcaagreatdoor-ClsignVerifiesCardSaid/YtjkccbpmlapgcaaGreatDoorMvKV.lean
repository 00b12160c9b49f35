/- The walk of the reference's Verify (30). -/
import Derived.Test.YtjkccbpmlapgcaaGreatDoorMvJC
namespace Go.Proofs.YtjkccbpmlapgcaaGreatDoor
open Go.RowKit
set_option maxRecDepth 100000
set_option linter.unusedVariables false
set_option maxHeartbeats 8000000
theorem c3S : (Tryz.prog.info? 48).map (·.size)=some 3:=by kernel_rfl
theorem cmp_geV {a b : ByteArray} (ha : valid a=true) (hb : valid b=true) : decide ((0 : Int)≤natCmp a b)=decide (num b≤num a):=by
 rw [cmp_ge ha hb]
 by_cases h : num a < num b
 · rw [decide_eq_true h,decide_eq_false (by omega)];rfl
 · rw [decide_eq_false h,decide_eq_true (by omega)];rfl
theorem attE_len {se ha at_ : ByteArray} {rs ats : List ByteArray} (h : attE se ha at_ rs ats=0) : ats.length=rs.length:=by
 unfold attE at h
 split at h
 · assumption
 · exact absurd h (by decide)
theorem r30_Verify (P : Int) (ch sl mm mo mg mh wm wo wg wh se at_ ha el es bl ma nm m o z s u h sA sE sV : ByteArray) (A A2 : Option Addr) (n n2 c c2 : Nat) (rs ats : List ByteArray) (w : World) (sm : m.size≤8) (snm : nm.size≤100000)
  (hn : rs.length=n) (hn2 : ats.length=n2) (hm : n≤1000) (hm2 : n2≤1000) (hs : SLs w w.heap.size A rs) (hs2 : SLs w w.heap.size A2 ats) (hT : Tab w) (hPv : P=0→(valid se=true∧valid ha=true∧valid at_=true)∧valid el=true∧valid es=true∧valid bl=true)
  (hP : ∀ wq,Below w.heap.size w wq→Calls Tryz.prog 51 #[.agg #[.string ch,.string sl,.string mm,.string mo,.string mg,.string mh,.string wm,.string wo,.string wg,.string wh,.string se,.string at_,.string ha,.string el,.string es,.string bl,.string ma]] wq fun e w'=>e=.returned (.int .i64 P)∧Below wq.heap.size wq w') :
  Calls Tryz.prog 12 #[.agg #[.string ch,.string sl,.string mm,.string mo,.string mg,.string mh,.string wm,.string wo,.string wg,.string wh,.string se,.string at_,.string ha,.string el,.string es,.string bl,.string ma],.agg #[.string nm,.string m,.string o,.string z,.string s,.slice A n c,.string u,.string h],.slice A2 n2 c2,.agg #[.string sA,.string sE,.string sV]] w fun e w'=>e=.returned (.int .i64 (verS (keyE P nm m o z s u h rs) m o s z se ha at_ el es bl sA sE sV rs ats))∧Below w.heap.size w w':=by
 have HS0:=VkAt.start w #[.string ch,.string sl,.string mm,.string mo,.string mg,.string mh,.string wm,.string wo,.string wg,.string wh,.string se,.string at_,.string ha,.string el,.string es,.string bl,.string ma] #[.string nm,.string m,.string o,.string z,.string s,.slice A n c,.string u,.string h] #[.string sA,.string sE,.string sV] A A2 rs ats hs hs2 hT
 have KK:=Lib.hid (fun (wq : World) (h1 : Below w.heap.size w wq)=>r29_Check P ch sl mm mo mg mh wm wo wg wh se at_ ha el es bl ma nm m o z s u h A n c rs wq sm snm hn hm (hs.below h1 |>.more h1.size) (fun wq2 h2=>hP wq2 (h1.trans (h2.mono h1.size))))
 have KF:=Lib.hid (fun (wq : World) (h1 : SLs wq w.heap.size A2 ats)=>r30_nats ats A2 n2 c2 w.heap.size wq hn2 (by omega) h1)
 have KF2:=Lib.hid (fun (wq : World) A1 b1 (h1 : SLs wq b1 A1 [sA,sE,sV])=>r30_nats [sA,sE,sV] A1 3 3 b1 wq rfl (by omega) h1)
 have HZ:=Lib.hid (@keyE_zero P nm m o z s u h rs)
 obtain ⟨K,hK⟩ : ∃ K,keyE P nm m o z s u h rs=K:=⟨_,rfl⟩
 rw [hK] at KK HZ ⊢
 obtain ⟨R,hR⟩ : ∃ R,verS K m o s z se ha at_ el es bl sA sE sV rs ats=R:=⟨_,rfl⟩
 rw [hR]
 obtain ⟨W0,hW0⟩ : ∃ W0,((w.alloc (.cells #[.string ch,.string sl,.string mm,.string mo,.string mg,.string mh,.string wm,.string wo,.string wg,.string wh,.string se,.string at_,.string ha,.string el,.string es,.string bl,.string ma] 30)).alloc (.cells #[.string nm,.string m,.string o,.string z,.string s,.slice A n c,.string u,.string h] 33)).alloc (.cells #[.string sA,.string sE,.string sV] 48)=W0:=⟨_,rfl⟩
 rw [hW0] at HS0
 have HS:=Lib.hid HS0
 clear HS0 hK
 by_cases h0 : K=0
 · subst h0
   have hkey:=HZ.out rfl
   cases hv : ats.all valid
   · have HE : Hid (R=3):=Lib.hid (by rw [← hR];unfold verS;rw [hv];rfl)
     rw [hv] at KF
     clear hv hkey hs hs2 hPv hP sm snm hn hn2 hT hR
     go_enter Tryz.func12, Tryz.ntmps12
     go_wp2_with (first | (go_at_call 22;(with_reducible refine (KK.out _ HS.out.bel).mono ?_);rintro e w1 ⟨rfl,hb1⟩;have HS1:=Lib.hid (HS.out.next hb1);obtain ⟨a1,a2,a3⟩:=HS1.out.vc;clear hb1) | (with_reducible refine wpList_look ?_;refine wpList_load_row rfl 30 _ rfl _ rfl 30 #[.string ch,.string sl,.string mm,.string mo,.string mg,.string mh,.string wm,.string wo,.string wg,.string wh,.string se,.string at_,.string ha,.string el,.string es,.string bl,.string ma] (0,0) _ HS.out.par Tryz.underlying30 rfl (info17'.trans rfl) ?_) | (with_reducible refine wpList_look ?_;refine wpList_load_row rfl 33 _ rfl _ rfl 33 #[.string nm,.string m,.string o,.string z,.string s,.slice A n c,.string u,.string h] (0,0) _ HS.out.key Tryz.underlying33 rfl (info8'.trans rfl) ?_))
     with_reducible refine (KF.out _ HS1.out.att).mono ?_
     rintro e w2 ⟨rfl,rfl⟩
     go_wp2_with fail
     go_ret
     exact ⟨by rw [HE.out];rfl,HS1.out.bel⟩
   · rw [hv] at KF
     cases hv2 : [sA,sE,sV].all valid
     · have HE : Hid (R=3):=Lib.hid (by rw [← hR];unfold verS;rw [hv,hv2];rfl)
       rw [hv2] at KF2
       clear hv hv2 hkey hs hs2 hPv hP sm snm hn hn2 hT hR
       go_enter Tryz.func12, Tryz.ntmps12
       go_wp2_with (first | (go_at_call 22;(with_reducible refine (KK.out _ HS.out.bel).mono ?_);rintro e w1 ⟨rfl,hb1⟩;have HS1:=Lib.hid (HS.out.next hb1);obtain ⟨a1,a2,a3⟩:=HS1.out.vc;clear hb1) | (with_reducible refine wpList_look ?_;refine wpList_load_row rfl 30 _ rfl _ rfl 30 #[.string ch,.string sl,.string mm,.string mo,.string mg,.string mh,.string wm,.string wo,.string wg,.string wh,.string se,.string at_,.string ha,.string el,.string es,.string bl,.string ma] (0,0) _ HS.out.par Tryz.underlying30 rfl (info17'.trans rfl) ?_) | (with_reducible refine wpList_look ?_;refine wpList_load_row rfl 33 _ rfl _ rfl 33 #[.string nm,.string m,.string o,.string z,.string s,.slice A n c,.string u,.string h] (0,0) _ HS.out.key Tryz.underlying33 rfl (info8'.trans rfl) ?_))
       with_reducible refine (KF.out _ HS1.out.att).mono ?_
       rintro e w2 ⟨rfl,rfl⟩
       go_wp2_with (go_at_call 23;(refine (KF2.out _ _ _ (SLs.mkAt _ 22 [sA,sE,sV] _ rfl)).mono ?_);rintro e w2 ⟨rfl,rfl⟩;have HS2:=Lib.hid (HS1.out.alloc (.cells #[.string sA,.string sE,.string sV] 22)))
       go_ret
       exact ⟨by rw [HE.out];rfl,HS2.out.bel⟩
     · rw [hv2] at KF2
       have HR0 : Hid (R=if attE se ha at_ rs ats=0 then verA m o s z sA sE sV el es bl (msgV m rs ats) else attE se ha at_ rs ats):=Lib.hid (by rw [← hR];unfold verS;rw [hv,hv2];rfl)
       clear hR
       obtain ⟨⟨v1,v2,v3⟩,vel,ves,vbl⟩:=hPv hkey.p0
       have vA : valid sA=true:=by simp only [List.all_cons,Bool.and_eq_true] at hv2;exact hv2.1
       have vE : valid sE=true:=by simp only [List.all_cons,Bool.and_eq_true] at hv2;exact hv2.2.1
       have vV : valid sV=true:=by simp only [List.all_cons,Bool.and_eq_true] at hv2;exact hv2.2.2.1
       have KM:=Lib.hid (fun (wq : World) (h1 : Below w.heap.size w wq)=>r30_fits ch sl mm mo mg mh wm wo wg wh se at_ ha el es bl ma nm m o z s u h A A2 n n2 c c2 rs ats wq hn hn2 hm hm2 (hs.below h1 |>.more h1.size) (hs2.below h1 |>.more h1.size) hv v1 v2 v3)
       have HLEN:=Lib.hid (@attE_len se ha at_ rs ats)
       obtain ⟨ae,hae⟩ : ∃ ae,attE se ha at_ rs ats=ae:=⟨_,rfl⟩
       rw [hae] at KM HR0 HLEN
       by_cases h1 : ae=0
       · subst h1
         have hl:=HLEN.out rfl
         obtain rfl : n=n2:=by omega
         have KPR:=Lib.hid (fun (wq : World) (h1 : Below w.heap.size w wq)=>r30_Product nm m o z s u h A A2 n c c2 rs ats wq sm hkey.hg hkey.hrs hv hn hn2 hm hkey.two (hs.below h1 |>.more h1.size) (hs2.below h1 |>.more h1.size))
         have HR1 : Hid (R=verA m o s z sA sE sV el es bl (msgV m rs ats)):=HR0
         have HMSG : Hid (hasG m o (B (msgV m rs ats))=true):=Lib.hid (hasG_msg sm hkey.ho hkey.hs hkey.two hkey.hrs)
         obtain ⟨M,hM⟩ : ∃ M,msgV m rs ats=M:=⟨_,rfl⟩
         rw [hM] at HMSG HR1 KPR
         have KX:=Lib.hid (fun (x : ByteArray) (w : World)=>r13_Has m o x w sm)
         have HKEY:=Lib.hid hkey
         have HSM:=Lib.hid sm
         have HVV:=Lib.hid (And.intro vE vV)
         have KI:=Lib.hid (fun (w : World)=>r04_Is sE w)
         have KB1:=Lib.hid (fun (w : World)=>r30_below sE el es w vE vel ves)
         have KB2:=Lib.hid (fun (w : World)=>r30_below sV bl bl w vV vbl vbl)
         have KC1:=Lib.hid (fun (w : World)=>r01_Cmp sV bl w)
         have hcg:=cmp_geV vV vbl
         obtain ⟨cv,hcv⟩ : ∃ cv,natCmp sV bl=cv:=⟨_,rfl⟩
         rw [hcv] at hcg KC1
         obtain ⟨gV,hgV⟩ : ∃ gV,decide (num bl≤num sV)=gV:=⟨_,rfl⟩
         rw [hgV] at hcg
         obtain ⟨vb,hvb⟩ : ∃ vb,rangS el es bl sE sV=vb:=⟨_,rfl⟩
         have hvb2 : gV=true→vb=(belS sE el es&&belS sV bl bl):=by
          intro hg
          rw [← hvb]
          have h3 : num bl≤num sV:=by rw [hg] at hgV;exact of_decide_eq_true hgV
          unfold rangS
          congr 1
          unfold belS
          rw [decide_eq_true h3]
          by_cases h4 : num sV - num bl < num bl
          · rw [decide_eq_true h4,decide_eq_false (by omega)];rfl
          · rw [decide_eq_false h4,decide_eq_true (by omega)];rfl
         have hvb3 : gV=false→vb=belS sE el es:=by
          intro hg
          rw [← hvb]
          unfold rangS
          rw [hgV,hg]
          simp
         obtain ⟨bE,hbE⟩ : ∃ bE,belS sE el es=bE:=⟨_,rfl⟩
         obtain ⟨bV,hbV⟩ : ∃ bV,belS sV bl bl=bV:=⟨_,rfl⟩
         rw [hbE] at KB1 hvb2 hvb3
         rw [hbV] at KB2 hvb2
         have hvf : bE=false→vb=false:=by
          rintro rfl
          cases gV
          · exact hvb3 rfl
          · exact (hvb2 rfl).trans rfl
         have HR2 : Hid (R=if vb=true then (if (isPS sE).2=0 then (if (isPS sE).1=true then (if hasG m o sA=true then (if eqS m s z sA sE sV M=true then 0 else 19) else 13) else 12) else (isPS sE).2) else 2):=Lib.hid (by rw [HR1.out];unfold verA;rw [hvb])
         have HVB2:=Lib.hid hvb2
         have HVB3:=Lib.hid hvb3
         have HVF:=Lib.hid hvf
         clear HLEN hae HR0 HR1 hl hM hcv hgV hvb hvb2 hvb3 hvf hbE hbV hv hv2 hkey hs hs2 hPv hP sm snm hn hn2 hT v1 v2 v3 vel ves vbl vA vE vV
         go_enter Tryz.func12, Tryz.ntmps12
         go_wp2_with (first | (go_at_call 22;(with_reducible refine (KK.out _ HS.out.bel).mono ?_);rintro e w1 ⟨rfl,hb1⟩;have HS1:=Lib.hid (HS.out.next hb1);obtain ⟨a1,a2,a3⟩:=HS1.out.vc;clear hb1) | (with_reducible refine wpList_look ?_;refine wpList_load_row rfl 30 _ rfl _ rfl 30 #[.string ch,.string sl,.string mm,.string mo,.string mg,.string mh,.string wm,.string wo,.string wg,.string wh,.string se,.string at_,.string ha,.string el,.string es,.string bl,.string ma] (0,0) _ HS.out.par Tryz.underlying30 rfl (info17'.trans rfl) ?_) | (with_reducible refine wpList_look ?_;refine wpList_load_row rfl 33 _ rfl _ rfl 33 #[.string nm,.string m,.string o,.string z,.string s,.slice A n c,.string u,.string h] (0,0) _ HS.out.key Tryz.underlying33 rfl (info8'.trans rfl) ?_))
         with_reducible refine (KF.out _ HS1.out.att).mono ?_
         rintro e w2 ⟨rfl,rfl⟩
         go_upto_region 6 with (go_at_call 23;(refine (KF2.out _ _ _ (SLs.mkAt _ 22 [sA,sE,sV] _ rfl)).mono ?_);rintro e w2 ⟨rfl,rfl⟩;have HS2:=Lib.hid (HS1.out.alloc (.cells #[.string sA,.string sE,.string sV] 22)))
         go_upto_region 9 with (first | (go_at_call 24;(with_reducible refine (KM.out _ HS2.out.bel).mono ?_);rintro e w3 ⟨rfl,hb3⟩;have HS3:=Lib.hid (HS2.out.next hb3);obtain ⟨a1,a2,a3⟩:=HS3.out.vc;obtain ⟨q1,q2,q3⟩:=HS3.out.pc;obtain ⟨g1,g2,g3,g4⟩:=HS3.out.kc;clear hb3) | (with_reducible refine wpList_look ?_;refine wpList_load_row rfl 30 _ rfl _ rfl 30 #[.string ch,.string sl,.string mm,.string mo,.string mg,.string mh,.string wm,.string wo,.string wg,.string wh,.string se,.string at_,.string ha,.string el,.string es,.string bl,.string ma] (0,0) _ HS2.out.par Tryz.underlying30 rfl (info17'.trans rfl) ?_) | (with_reducible refine wpList_look ?_;refine wpList_load_row rfl 33 _ rfl _ rfl 33 #[.string nm,.string m,.string o,.string z,.string s,.slice A n c,.string u,.string h] (0,0) _ HS2.out.key Tryz.underlying33 rfl (info8'.trans rfl) ?_))
         go_cut [65] (fun b wx=>b=.bool (!vb)∧VkAt w #[.string ch,.string sl,.string mm,.string mo,.string mg,.string mh,.string wm,.string wo,.string wg,.string wh,.string se,.string at_,.string ha,.string el,.string es,.string bl,.string ma] #[.string nm,.string m,.string o,.string z,.string s,.slice A n c,.string u,.string h] #[.string sA,.string sE,.string sV] A A2 rs ats wx)
         case first =>
          cases bE
          · have HV : Hid (vb=false):=Lib.hid (HVF.out rfl)
            go_wp2_with (go_at_call 32;(with_reducible refine (KB1.out _).mono ?_);rintro e w4 ⟨rfl,hb4⟩;have HS4:=Lib.hid (HS3.out.next hb4);obtain ⟨a1,a2,a3⟩:=HS4.out.vc;obtain ⟨q1,q2,q3⟩:=HS4.out.pc;obtain ⟨g1,g2,g3,g4⟩:=HS4.out.kc;clear hb4)
            go_meet
            exact ⟨by rw [HV.out];rfl,HS4.out⟩
          · cases gV
            · have HV : Hid (vb=true):=Lib.hid (HVB3.out rfl)
              go_wp2_with (first | (go_at_call 32;(with_reducible refine (KB1.out _).mono ?_);rintro e w4 ⟨rfl,hb4⟩;have HS4:=Lib.hid (HS3.out.next hb4);obtain ⟨a1,a2,a3⟩:=HS4.out.vc;obtain ⟨q1,q2,q3⟩:=HS4.out.pc;obtain ⟨g1,g2,g3,g4⟩:=HS4.out.kc;clear hb4) | (go_at_call 33;(with_reducible refine (KC1.out _).mono ?_);rintro e w5 ⟨rfl,hb5⟩;have HS5:=Lib.hid (HS4.out.next hb5);obtain ⟨a1,a2,a3⟩:=HS5.out.vc;obtain ⟨q1,q2,q3⟩:=HS5.out.pc;obtain ⟨g1,g2,g3,g4⟩:=HS5.out.kc;clear hb5))
              go_meet
              exact ⟨by rw [HV.out];rfl,HS5.out⟩
            · have HV : Hid (vb=bV):=Lib.hid (HVB2.out rfl)
              cases bV
              · go_wp2_with (first | (go_at_call 32;(with_reducible refine (KB1.out _).mono ?_);rintro e w4 ⟨rfl,hb4⟩;have HS4:=Lib.hid (HS3.out.next hb4);obtain ⟨a1,a2,a3⟩:=HS4.out.vc;obtain ⟨q1,q2,q3⟩:=HS4.out.pc;obtain ⟨g1,g2,g3,g4⟩:=HS4.out.kc;clear hb4) | (go_at_call 33;(with_reducible refine (KC1.out _).mono ?_);rintro e w5 ⟨rfl,hb5⟩;have HS5:=Lib.hid (HS4.out.next hb5);obtain ⟨a1,a2,a3⟩:=HS5.out.vc;obtain ⟨q1,q2,q3⟩:=HS5.out.pc;obtain ⟨g1,g2,g3,g4⟩:=HS5.out.kc;clear hb5) | (go_at_call 32;(with_reducible refine (KB2.out _).mono ?_);rintro e w6 ⟨rfl,hb6⟩;have HS6:=Lib.hid (HS5.out.next hb6);obtain ⟨a1,a2,a3⟩:=HS6.out.vc;obtain ⟨q1,q2,q3⟩:=HS6.out.pc;obtain ⟨g1,g2,g3,g4⟩:=HS6.out.kc;clear hb6))
                go_meet
                exact ⟨by rw [HV.out];rfl,HS6.out⟩
              · go_wp2_with (first | (go_at_call 32;(with_reducible refine (KB1.out _).mono ?_);rintro e w4 ⟨rfl,hb4⟩;have HS4:=Lib.hid (HS3.out.next hb4);obtain ⟨a1,a2,a3⟩:=HS4.out.vc;obtain ⟨q1,q2,q3⟩:=HS4.out.pc;obtain ⟨g1,g2,g3,g4⟩:=HS4.out.kc;clear hb4) | (go_at_call 33;(with_reducible refine (KC1.out _).mono ?_);rintro e w5 ⟨rfl,hb5⟩;have HS5:=Lib.hid (HS4.out.next hb5);obtain ⟨a1,a2,a3⟩:=HS5.out.vc;obtain ⟨q1,q2,q3⟩:=HS5.out.pc;obtain ⟨g1,g2,g3,g4⟩:=HS5.out.kc;clear hb5) | (go_at_call 32;(with_reducible refine (KB2.out _).mono ?_);rintro e w6 ⟨rfl,hb6⟩;have HS6:=Lib.hid (HS5.out.next hb6);obtain ⟨a1,a2,a3⟩:=HS6.out.vc;obtain ⟨q1,q2,q3⟩:=HS6.out.pc;obtain ⟨g1,g2,g3,g4⟩:=HS6.out.kc;clear hb6))
                go_meet
                exact ⟨by rw [HV.out];rfl,HS6.out⟩
         case rest =>
          obtain ⟨rfl,hcut⟩:=hcut
          have HS7:=Lib.hid hcut
          obtain ⟨a1,a2,a3⟩:=hcut.vc
          obtain ⟨q1,q2,q3⟩:=hcut.pc
          obtain ⟨g1,g2,g3,g4⟩:=hcut.kc
          clear hcut HS3 HS2 HS1 hcg
          cases vb
          · have HE : Hid (R=2):=HR2
            go_wp2_with fail
            go_ret
            exact ⟨by rw [HE.out];rfl,HS7.out.bel⟩
          · have HR3 : Hid (R=if (isPS sE).2=0 then (if (isPS sE).1=true then (if hasG m o sA=true then (if eqS m s z sA sE sV M=true then 0 else 19) else 13) else 12) else (isPS sE).2):=HR2
            obtain ⟨bi,ei,hi⟩ : ∃ bi ei,isPS sE=(bi,ei):=⟨_,_,rfl⟩
            rw [hi] at KI HR3
            clear hi
            by_cases h7 : ei=0
            · subst h7
              cases bi
              · have HE : Hid (R=12):=HR3
                go_wp2_with (go_at_call 34;(with_reducible refine (KI.out _).mono ?_);rintro e w7 ⟨rfl,hb7⟩;have HS8:=Lib.hid (HS7.out.next hb7);obtain ⟨a1,a2,a3⟩:=HS8.out.vc;obtain ⟨q1,q2,q3⟩:=HS8.out.pc;obtain ⟨g1,g2,g3,g4⟩:=HS8.out.kc;clear hb7)
                go_ret
                exact ⟨by rw [HE.out];rfl,HS8.out.bel⟩
              · have HR4 : Hid (R=if hasG m o sA=true then (if eqS m s z sA sE sV M=true then 0 else 19) else 13):=HR3
                have KX1 : Hid (∀ w,Calls Tryz.prog 35 #[.agg #[.string m,.string o],.string sA] w fun e w'=>e=.returned (.bool (hasG m o sA))∧Below w.heap.size w w'):=Lib.hid (fun w=>by have:=KX.out sA w;rw [HKEY.out.hg] at this;exact this)
                cases hA : hasG m o sA
                · have HE : Hid (R=13):=Lib.hid (by rw [HR4.out,hA];rfl)
                  rw [hA] at KX1
                  clear hA
                  go_wp2_with (first | (go_at_call 34;(with_reducible refine (KI.out _).mono ?_);rintro e w7 ⟨rfl,hb7⟩;have HS8:=Lib.hid (HS7.out.next hb7);obtain ⟨a1,a2,a3⟩:=HS8.out.vc;obtain ⟨q1,q2,q3⟩:=HS8.out.pc;obtain ⟨g1,g2,g3,g4⟩:=HS8.out.kc;clear hb7) | (go_at_call 35;(with_reducible refine (KX1.out _).mono ?_);rintro e w8 ⟨rfl,hb8⟩;have HS9:=Lib.hid (HS8.out.next hb8);obtain ⟨a1,a2,a3⟩:=HS9.out.vc;obtain ⟨q1,q2,q3⟩:=HS9.out.pc;obtain ⟨g1,g2,g3,g4⟩:=HS9.out.kc;clear hb8))
                  go_ret
                  exact ⟨by rw [HE.out];rfl,HS9.out.bel⟩
                · have HR5 : Hid (R=if eqS m s z sA sE sV M=true then 0 else 19):=Lib.hid (by rw [HR4.out,hA];rfl)
                  have KEQ:=Lib.hid (fun (w : World)=>r30_Equation nm m o z s u h sA sE sV M A n c w HSM.out HKEY.out.hg HKEY.out.two (by simp [hA,HKEY.out.hs,HMSG.out]) HVV.out.1 HVV.out.2)
                  rw [hA] at KX1
                  clear hA
                  obtain ⟨be,hbe⟩ : ∃ be,eqS m s z sA sE sV M=be:=⟨_,rfl⟩
                  rw [hbe] at KEQ HR5
                  clear hbe
                  cases be
                  · have HE : Hid (R=19):=HR5
                    go_upto_region 18 with (first | (go_at_call 34;(with_reducible refine (KI.out _).mono ?_);rintro e w7 ⟨rfl,hb7⟩;have HS8:=Lib.hid (HS7.out.next hb7);obtain ⟨a1,a2,a3⟩:=HS8.out.vc;obtain ⟨q1,q2,q3⟩:=HS8.out.pc;obtain ⟨g1,g2,g3,g4⟩:=HS8.out.kc;clear hb7) | (go_at_call 35;(with_reducible refine (KX1.out _).mono ?_);rintro e w8 ⟨rfl,hb8⟩;have HS9:=Lib.hid (HS8.out.next hb8);obtain ⟨a1,a2,a3⟩:=HS9.out.vc;obtain ⟨q1,q2,q3⟩:=HS9.out.pc;obtain ⟨g1,g2,g3,g4⟩:=HS9.out.kc;clear hb8))
                    refine wp_region_held_drew (S:=(fun w'=>VkAt w #[.string ch,.string sl,.string mm,.string mo,.string mg,.string mh,.string wm,.string wo,.string wg,.string wh,.string se,.string at_,.string ha,.string el,.string es,.string bl,.string ma] #[.string nm,.string m,.string o,.string z,.string s,.slice A n c,.string u,.string h] #[.string sA,.string sE,.string sV] A A2 rs ats w')) (by kernel_rfl) ?_ (fun hHeld=>?_)
                    · exact HS9.out.drew
                    have HQ:=Lib.hid HS9.out.drew
                    clear HS9
                    refine wpAnyH_takeD (i:=0) (v:=.agg #[.string nm,.string m,.string o,.string z,.string s,.slice A n c,.string u,.string h]) (some 83) rfl (by kernel_rfl) (by kernel_rfl) (by kernel_rfl) (fun _ _ _ h=>h) rfl (Or.inl ⟨by rfl,?_⟩) (by assumption) ?_
                    · intro w' hS;exact run_exec_load_row 33 (.tmp 5) rfl (w.heap.size+1) rfl _ _ _ _ hS.key Tryz.underlying33 rfl (info8'.trans rfl)
                    try simp only [Act.put,List.setIfInBounds_toArray,List.set]
                    refine wpAnyH_takeD (i:=1) (v:=.agg #[.string nm,.string m,.string o,.string z,.string s,.slice A n c,.string u,.string h]) (some 84) rfl (by kernel_rfl) (by kernel_rfl) (by kernel_rfl) (fun _ _ _ h=>h) rfl (Or.inl ⟨by rfl,?_⟩) (by assumption) ?_
                    · intro w' hS;exact run_exec_load_row 33 (.tmp 5) rfl (w.heap.size+1) rfl _ _ _ _ hS.key Tryz.underlying33 rfl (info8'.trans rfl)
                    try simp only [Act.put,List.setIfInBounds_toArray,List.set]
                    refine wpAnyH_takeD (i:=2) (v:=?_) (some 85) rfl (by kernel_rfl) (by kernel_rfl) (by kernel_rfl) (fun _ _ _ h=>h) rfl (Or.inl ⟨by rfl,?_⟩) (by assumption) ?_
                    rotate_left
                    · intro w hSw;(try dsimp only at hSw);go_simp<;>with_reducible rfl
                    try simp only [Act.put,List.setIfInBounds_toArray,List.set]
                    refine wpAnyH_takeD (i:=4) (v:=.agg #[.string sA,.string sE,.string sV]) (some 87) rfl (by kernel_rfl) (by kernel_rfl) (by kernel_rfl) (fun _ _ _ h=>h) rfl (Or.inl ⟨by rfl,?_⟩) (by assumption) ?_
                    · intro w' hS;exact run_exec_load_row 48 (.tmp 7) rfl (w.heap.size+1+1) rfl _ _ _ _ hS.sig Tryz.underlying48 rfl (c3S.trans rfl)
                    try simp only [Act.put,List.setIfInBounds_toArray,List.set]
                    refine wpAnyH_ready (rs:=[3]) (by kernel_rfl) (by simp) ?_
                    refine AllReadyH.cons rfl (fun K hK=>?_) AllReadyH.nil
                    go_simp
                    (go_at_call 25;(with_reducible refine (KPR.out _ HQ.out.bel).mono ?_);rintro e wp ⟨rfl,hbq⟩;have HQ1:=Lib.hid (HQ.out.next hbq);clear hbq)
                    go_wp2_with fail
                    refine hK.out _ _ ?_ (fun hHeld=>?_)
                    · exact HQ1.out
                    clear hK K
                    try simp only [Act.put,List.setIfInBounds_toArray,List.set]
                    refine wpAnyH_ready (rs:=[5]) (by kernel_rfl) (by simp) ?_
                    refine AllReadyH.cons rfl (fun K hK=>?_) AllReadyH.nil
                    go_simp
                    (go_at_call 36;(with_reducible refine (KEQ.out _).mono ?_);rintro e wq ⟨rfl,hbq⟩;have HQ2:=Lib.hid (HQ1.out.next hbq);clear hbq)
                    go_wp2_with fail
                    refine hK.out _ _ ?_ (fun hHeld=>?_)
                    · exact HQ2.out
                    clear hK K
                    try simp only [Act.put,List.setIfInBounds_toArray,List.set]
                    refine wpAnyH_takeD (i:=6) (v:=?_) (some 89) rfl (by kernel_rfl) (by kernel_rfl) (by kernel_rfl) (fun _ _ _ h=>h) rfl (Or.inl ⟨by rfl,?_⟩) (by assumption) ?_
                    rotate_left
                    · intro w hSw;(try dsimp only at hSw);go_simp<;>with_reducible rfl
                    try simp only [Act.put,List.setIfInBounds_toArray,List.set]
                    refine wpAnyH_done (by kernel_rfl) ?_ _
                    go_wp2_with fail
                    go_ret
                    exact ⟨by rw [HE.out];rfl,HQ2.out.bel⟩
                  · have HE : Hid (R=0):=HR5
                    go_upto_region 18 with (first | (go_at_call 34;(with_reducible refine (KI.out _).mono ?_);rintro e w7 ⟨rfl,hb7⟩;have HS8:=Lib.hid (HS7.out.next hb7);obtain ⟨a1,a2,a3⟩:=HS8.out.vc;obtain ⟨q1,q2,q3⟩:=HS8.out.pc;obtain ⟨g1,g2,g3,g4⟩:=HS8.out.kc;clear hb7) | (go_at_call 35;(with_reducible refine (KX1.out _).mono ?_);rintro e w8 ⟨rfl,hb8⟩;have HS9:=Lib.hid (HS8.out.next hb8);obtain ⟨a1,a2,a3⟩:=HS9.out.vc;obtain ⟨q1,q2,q3⟩:=HS9.out.pc;obtain ⟨g1,g2,g3,g4⟩:=HS9.out.kc;clear hb8))
                    refine wp_region_held_drew (S:=(fun w'=>VkAt w #[.string ch,.string sl,.string mm,.string mo,.string mg,.string mh,.string wm,.string wo,.string wg,.string wh,.string se,.string at_,.string ha,.string el,.string es,.string bl,.string ma] #[.string nm,.string m,.string o,.string z,.string s,.slice A n c,.string u,.string h] #[.string sA,.string sE,.string sV] A A2 rs ats w')) (by kernel_rfl) ?_ (fun hHeld=>?_)
                    · exact HS9.out.drew
                    have HQ:=Lib.hid HS9.out.drew
                    clear HS9
                    refine wpAnyH_takeD (i:=0) (v:=.agg #[.string nm,.string m,.string o,.string z,.string s,.slice A n c,.string u,.string h]) (some 83) rfl (by kernel_rfl) (by kernel_rfl) (by kernel_rfl) (fun _ _ _ h=>h) rfl (Or.inl ⟨by rfl,?_⟩) (by assumption) ?_
                    · intro w' hS;exact run_exec_load_row 33 (.tmp 5) rfl (w.heap.size+1) rfl _ _ _ _ hS.key Tryz.underlying33 rfl (info8'.trans rfl)
                    try simp only [Act.put,List.setIfInBounds_toArray,List.set]
                    refine wpAnyH_takeD (i:=1) (v:=.agg #[.string nm,.string m,.string o,.string z,.string s,.slice A n c,.string u,.string h]) (some 84) rfl (by kernel_rfl) (by kernel_rfl) (by kernel_rfl) (fun _ _ _ h=>h) rfl (Or.inl ⟨by rfl,?_⟩) (by assumption) ?_
                    · intro w' hS;exact run_exec_load_row 33 (.tmp 5) rfl (w.heap.size+1) rfl _ _ _ _ hS.key Tryz.underlying33 rfl (info8'.trans rfl)
                    try simp only [Act.put,List.setIfInBounds_toArray,List.set]
                    refine wpAnyH_takeD (i:=2) (v:=?_) (some 85) rfl (by kernel_rfl) (by kernel_rfl) (by kernel_rfl) (fun _ _ _ h=>h) rfl (Or.inl ⟨by rfl,?_⟩) (by assumption) ?_
                    rotate_left
                    · intro w hSw;(try dsimp only at hSw);go_simp<;>with_reducible rfl
                    try simp only [Act.put,List.setIfInBounds_toArray,List.set]
                    refine wpAnyH_takeD (i:=4) (v:=.agg #[.string sA,.string sE,.string sV]) (some 87) rfl (by kernel_rfl) (by kernel_rfl) (by kernel_rfl) (fun _ _ _ h=>h) rfl (Or.inl ⟨by rfl,?_⟩) (by assumption) ?_
                    · intro w' hS;exact run_exec_load_row 48 (.tmp 7) rfl (w.heap.size+1+1) rfl _ _ _ _ hS.sig Tryz.underlying48 rfl (c3S.trans rfl)
                    try simp only [Act.put,List.setIfInBounds_toArray,List.set]
                    refine wpAnyH_ready (rs:=[3]) (by kernel_rfl) (by simp) ?_
                    refine AllReadyH.cons rfl (fun K hK=>?_) AllReadyH.nil
                    go_simp
                    (go_at_call 25;(with_reducible refine (KPR.out _ HQ.out.bel).mono ?_);rintro e wp ⟨rfl,hbq⟩;have HQ1:=Lib.hid (HQ.out.next hbq);clear hbq)
                    go_wp2_with fail
                    refine hK.out _ _ ?_ (fun hHeld=>?_)
                    · exact HQ1.out
                    clear hK K
                    try simp only [Act.put,List.setIfInBounds_toArray,List.set]
                    refine wpAnyH_ready (rs:=[5]) (by kernel_rfl) (by simp) ?_
                    refine AllReadyH.cons rfl (fun K hK=>?_) AllReadyH.nil
                    go_simp
                    (go_at_call 36;(with_reducible refine (KEQ.out _).mono ?_);rintro e wq ⟨rfl,hbq⟩;have HQ2:=Lib.hid (HQ1.out.next hbq);clear hbq)
                    go_wp2_with fail
                    refine hK.out _ _ ?_ (fun hHeld=>?_)
                    · exact HQ2.out
                    clear hK K
                    try simp only [Act.put,List.setIfInBounds_toArray,List.set]
                    refine wpAnyH_takeD (i:=6) (v:=?_) (some 89) rfl (by kernel_rfl) (by kernel_rfl) (by kernel_rfl) (fun _ _ _ h=>h) rfl (Or.inl ⟨by rfl,?_⟩) (by assumption) ?_
                    rotate_left
                    · intro w hSw;(try dsimp only at hSw);go_simp<;>with_reducible rfl
                    try simp only [Act.put,List.setIfInBounds_toArray,List.set]
                    refine wpAnyH_done (by kernel_rfl) ?_ _
                    go_wp2_with fail
                    go_ret
                    exact ⟨by rw [HE.out];rfl,HQ2.out.bel⟩
            · have HE : Hid (R=ei):=Lib.hid (by rw [HR3.out,if_neg h7])
              have k7 : (ei != 0)=true:=by simpa using h7
              clear h7
              go_wp2_with (go_at_call 34;(with_reducible refine (KI.out _).mono ?_);rintro e w7 ⟨rfl,hb7⟩;have HS8:=Lib.hid (HS7.out.next hb7);obtain ⟨a1,a2,a3⟩:=HS8.out.vc;obtain ⟨q1,q2,q3⟩:=HS8.out.pc;obtain ⟨g1,g2,g3,g4⟩:=HS8.out.kc;clear hb7)
              go_ret
              exact ⟨by rw [HE.out];rfl,HS8.out.bel⟩
       · have HE : Hid (R=ae):=Lib.hid (by rw [HR0.out,if_neg h1])
         have p1 : (ae != 0)=true:=by simpa using h1
         clear h1 HR0 HLEN hae hv hv2 hkey hs hs2 hPv hP sm snm hn hn2 hT v1 v2 v3 vel ves vbl vA vE vV
         go_enter Tryz.func12, Tryz.ntmps12
         go_wp2_with (first | (go_at_call 22;(with_reducible refine (KK.out _ HS.out.bel).mono ?_);rintro e w1 ⟨rfl,hb1⟩;have HS1:=Lib.hid (HS.out.next hb1);obtain ⟨a1,a2,a3⟩:=HS1.out.vc;clear hb1) | (with_reducible refine wpList_look ?_;refine wpList_load_row rfl 30 _ rfl _ rfl 30 #[.string ch,.string sl,.string mm,.string mo,.string mg,.string mh,.string wm,.string wo,.string wg,.string wh,.string se,.string at_,.string ha,.string el,.string es,.string bl,.string ma] (0,0) _ HS.out.par Tryz.underlying30 rfl (info17'.trans rfl) ?_) | (with_reducible refine wpList_look ?_;refine wpList_load_row rfl 33 _ rfl _ rfl 33 #[.string nm,.string m,.string o,.string z,.string s,.slice A n c,.string u,.string h] (0,0) _ HS.out.key Tryz.underlying33 rfl (info8'.trans rfl) ?_))
         with_reducible refine (KF.out _ HS1.out.att).mono ?_
         rintro e w2 ⟨rfl,rfl⟩
         go_upto_region 6 with (go_at_call 23;(refine (KF2.out _ _ _ (SLs.mkAt _ 22 [sA,sE,sV] _ rfl)).mono ?_);rintro e w2 ⟨rfl,rfl⟩;have HS2:=Lib.hid (HS1.out.alloc (.cells #[.string sA,.string sE,.string sV] 22)))
         go_wp2_with (first | (go_at_call 24;(with_reducible refine (KM.out _ HS2.out.bel).mono ?_);rintro e w3 ⟨rfl,hb3⟩;have HS3:=Lib.hid (HS2.out.next hb3);obtain ⟨a1,a2,a3⟩:=HS3.out.vc;obtain ⟨q1,q2,q3⟩:=HS3.out.pc;obtain ⟨g1,g2,g3,g4⟩:=HS3.out.kc;clear hb3) | (with_reducible refine wpList_look ?_;refine wpList_load_row rfl 30 _ rfl _ rfl 30 #[.string ch,.string sl,.string mm,.string mo,.string mg,.string mh,.string wm,.string wo,.string wg,.string wh,.string se,.string at_,.string ha,.string el,.string es,.string bl,.string ma] (0,0) _ HS2.out.par Tryz.underlying30 rfl (info17'.trans rfl) ?_) | (with_reducible refine wpList_look ?_;refine wpList_load_row rfl 33 _ rfl _ rfl 33 #[.string nm,.string m,.string o,.string z,.string s,.slice A n c,.string u,.string h] (0,0) _ HS2.out.key Tryz.underlying33 rfl (info8'.trans rfl) ?_))
         go_ret
         exact ⟨by rw [HE.out];rfl,HS3.out.bel⟩
 · have HE : Hid (R=K):=Lib.hid (by rw [← hR];unfold verS;rw [if_neg h0])
   have p0 : (K != 0)=true:=by simpa using h0
   clear h0 HZ hs hs2 hPv hP sm snm hn hn2 hT hR
   go_enter Tryz.func12, Tryz.ntmps12
   go_wp2_with (first | (go_at_call 22;(with_reducible refine (KK.out _ HS.out.bel).mono ?_);rintro e w1 ⟨rfl,hb1⟩;have HS1:=Lib.hid (HS.out.next hb1);obtain ⟨a1,a2,a3⟩:=HS1.out.vc;clear hb1) | (with_reducible refine wpList_look ?_;refine wpList_load_row rfl 30 _ rfl _ rfl 30 #[.string ch,.string sl,.string mm,.string mo,.string mg,.string mh,.string wm,.string wo,.string wg,.string wh,.string se,.string at_,.string ha,.string el,.string es,.string bl,.string ma] (0,0) _ HS.out.par Tryz.underlying30 rfl (info17'.trans rfl) ?_) | (with_reducible refine wpList_look ?_;refine wpList_load_row rfl 33 _ rfl _ rfl 33 #[.string nm,.string m,.string o,.string z,.string s,.slice A n c,.string u,.string h] (0,0) _ HS.out.key Tryz.underlying33 rfl (info8'.trans rfl) ?_))
   go_ret
   exact ⟨by rw [HE.out];rfl,HS1.out.bel⟩
end Go.Proofs.YtjkccbpmlapgcaaGreatDoor
