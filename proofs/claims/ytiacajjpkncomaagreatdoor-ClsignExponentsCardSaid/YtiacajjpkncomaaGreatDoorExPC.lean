/- The walk of params.Check. -/
import Derived.Test.YtiacajjpkncomaaGreatDoorExJ5
import Derived.Deep.DeepCutAuto
import Derived.Deep.CutBlock
import Derived.Deep.RegionHeld3
namespace Go.Proofs.YtiacajjpkncomaaGreatDoor
open Go.RowKit
set_option maxRecDepth 100000
set_option linter.unusedVariables false
set_option maxHeartbeats 4000000
theorem all_no {p:ByteArray→Bool} {ls:List ByteArray} {k:Nat} (hk:k<ls.length) (h:p (ls.getD k ByteArray.empty)=false):ls.all p=false:=by
 rw [List.all_eq_false];refine ⟨ls[k],List.getElem_mem hk,?_⟩;rw [sgetD_lt hk] at h;rw [h];exact Bool.false_ne_true
theorem all_yes {p:ByteArray→Bool} {ls:List ByteArray} (h:∀ j,j<ls.length→p (ls.getD j ByteArray.empty)=true):ls.all p=true:=by
 rw [List.all_eq_true];intro x hx;obtain ⟨j,hj,rfl⟩:=List.getElem_of_mem hx;have:=h j hj
 rwa [sgetD_lt hj] at this
theorem all_at {p:ByteArray→Bool} {ls:List ByteArray} {k:Nat} (h:ls.all p=true) (hk:k<ls.length):p (ls.getD k ByteArray.empty)=true:=by
 rw [sgetD_lt hk];exact List.all_eq_true.1 h _ (List.getElem_mem hk)
theorem chain5 (a b c d e:Bool):a=true∨(a=false∧b=true)∨(a=false∧b=false∧c=true)∨(a=false∧b=false∧c=false∧d=true)∨(a=false∧b=false∧c=false∧d=false∧e=true)∨(a=false∧b=false∧c=false∧d=false∧e=false):=by
 cases a<;>cases b<;>cases c<;>cases d<;>cases e<;>simp
theorem chain4 (a b c d:Bool):a=true∨(a=false∧b=true)∨(a=false∧b=false∧c=true)∨(a=false∧b=false∧c=false∧d=true)∨(a=false∧b=false∧c=false∧d=false):=by
 cases a<;>cases b<;>cases c<;>cases d<;>simp
structure CkAt (w:World) (cs:Array Value) (g:Nat) (wx:World):Prop where
 par:BoxPar w wx cs
 one:wx.cell? ⟨g,0,none⟩=some (.string (B 1))
theorem CkAt.next {w wx wy:World} {cs:Array Value} {g:Nat} (h:CkAt w cs g wx) (hb:Below wx.heap.size wx wy):CkAt w cs g wy :=
 ⟨h.par.next hb,(hb.cell (cell_in' h.one)).trans h.one⟩
theorem CkAt.start {w wx:World} {cs:Array Value} (h:BoxPar w wx cs):CkAt w cs wx.heap.size (wx.alloc (.cells #[.string (B 1)] 22)) :=
 ⟨h.next ((Below.refl _ _).alloc (Nat.le_refl _) _),by simp [go_sem]⟩
theorem BoxPar.groups {w wx:World} {ch sl mm mo mg mh wm wo wg wh se at_ ha el es bl ma:Value} (h:BoxPar w wx #[ch,sl,mm,mo,mg,mh,wm,wo,wg,wh,se,at_,ha,el,es,bl,ma]) :
  wx.cell? ⟨w.heap.size,2,none⟩=some mm∧wx.cell? ⟨w.heap.size,3,none⟩=some mo∧wx.cell? ⟨w.heap.size,4,none⟩=some mg∧wx.cell? ⟨w.heap.size,5,none⟩=some mh∧wx.cell? ⟨w.heap.size,6,none⟩=some wm∧wx.cell? ⟨w.heap.size,7,none⟩=some wo∧wx.cell? ⟨w.heap.size,8,none⟩=some wg∧wx.cell? ⟨w.heap.size,9,none⟩=some wh :=
 ⟨(h.cell 2).trans rfl,(h.cell 3).trans rfl,(h.cell 4).trans rfl,(h.cell 5).trans rfl,(h.cell 6).trans rfl,(h.cell 7).trans rfl,(h.cell 8).trans rfl,(h.cell 9).trans rfl⟩
theorem BoxPar.bounds {w wx:World} {ch sl mm mo mg mh wm wo wg wh se at_ ha el es bl ma:Value} (h:BoxPar w wx #[ch,sl,mm,mo,mg,mh,wm,wo,wg,wh,se,at_,ha,el,es,bl,ma]) :
  wx.cell? ⟨w.heap.size,0,none⟩=some ch∧wx.cell? ⟨w.heap.size,1,none⟩=some sl∧wx.cell? ⟨w.heap.size,10,none⟩=some se∧wx.cell? ⟨w.heap.size,11,none⟩=some at_∧wx.cell? ⟨w.heap.size,12,none⟩=some ha∧wx.cell? ⟨w.heap.size,13,none⟩=some el∧wx.cell? ⟨w.heap.size,14,none⟩=some es∧wx.cell? ⟨w.heap.size,15,none⟩=some bl∧wx.cell? ⟨w.heap.size,16,none⟩=some ma :=
 ⟨(h.cell 0).trans rfl,(h.cell 1).trans rfl,(h.cell 10).trans rfl,(h.cell 11).trans rfl,(h.cell 12).trans rfl,(h.cell 13).trans rfl,(h.cell 14).trans rfl,(h.cell 15).trans rfl,(h.cell 16).trans rfl⟩
theorem natCmp_of {a b:ByteArray} (ha:valid a=true) (hb:valid b=true):natCmp a b=cmpN (num a) (num b):=by unfold natCmp;rw [ha,hb];rfl
theorem meas9 {k:Nat} (h:k<9):9-(intOf (.int .i64 ((k:Int)+1))).toNat<9-(intOf (.int .i64 (k:Int))).toNat:=by
 simp only [intOf];omega
theorem chain3 (a b c:Bool):a=true∨(a=false∧b=true)∨(a=false∧b=false∧c=true)∨(a=false∧b=false∧c=false):=by
 cases a<;>cases b<;>cases c<;>simp
theorem cmpN_posd {x y:Nat} {p:Prop} [Decidable p] (h:y<x↔¬ p):decide (0<cmpN x y)=!decide p:=by
 unfold cmpN;by_cases hp:p
 · rw [decide_eq_true hp]
   have:¬ y<x:=fun e=>h.1 e hp
   refine decide_eq_false ?_
   split
   · decide
   · split
     · decide
     · omega
 · rw [decide_eq_false hp]
   have:=h.2 hp;refine decide_eq_true ?_;rw [if_neg (by omega),if_neg (by omega)];decide
theorem params_Check (ch sl mm mo mg mh wm wo wg wh se at_ ha el es bl ma:ByteArray) (w:World) (z1:mm.size≤8) (z2:mo.size≤8) (z3:wm.size≤8) (z4:at_.size≤8) (hT:Tab w) :
  Calls Tryz.prog 19 #[.agg #[.string ch,.string sl,.string mm,.string mo,.string mg,.string mh,.string wm,.string wo,.string wg,.string wh,.string se,.string at_,.string ha,.string el,.string es,.string bl,.string ma]] w fun e w'=>e=.returned (.int .i64 (parS ch sl mm mo mg mh wm wo wg wh se at_ ha el es bl ma))∧Below w.heap.size w w':=by
 have KN:=Lib.hid (fun w=>params_numbers ch sl mm mo mg mh wm wo wg wh se at_ ha el es bl ma w);have HP0:=Lib.hid (BoxPar.start w #[.string ch,.string sl,.string mm,.string mo,.string mg,.string mh,.string wm,.string wo,.string wg,.string wh,.string se,.string at_,.string ha,.string el,.string es,.string bl,.string ma]);obtain ⟨ls,hls⟩:∃ ls:List ByteArray,ls=[ch,sl,se,at_,ha,el,es,bl,ma,mm,mo,mg,mh,wm,wo,wg,wh]:=⟨_,rfl⟩;have hlen:ls.length=17:=by rw [hls];rfl
 rw [← hls] at KN;have HL:=Lib.hid hlen;have HLS:=Lib.hid hls;have HZ1:=Lib.hid z1;have HZ2:=Lib.hid z2;have HZ3:=Lib.hid z3;have HZ4:=Lib.hid z4;have HT:=Lib.hid hT;clear hls hlen z1 z2 z3 z4 hT
 go_enter Tryz.func19, Tryz.ntmps19
 go_wp2_with (first
  | (refine wpList_load_row rfl 30 _ rfl w.heap.size rfl _ _ _ _ (heap_alloc_new w _) Tryz.underlying30 rfl (info17.trans rfl) ?_)
  | (go_at_call 45;(with_reducible refine (KN.out _).mono ?_);rintro e w1 ⟨⟨A,c,rfl,hsl⟩,hb1⟩
     have HS:=Lib.hid hsl;have HP1:=Lib.hid (HP0.out.next hb1)
     clear hsl hb1))
 clear KN HP0;go_loop [16] (fun v=>∃ k:Nat,v=.int .i64 k∧k≤17∧∀ j,j<k→valid (ls.getD j ByteArray.empty)=true) (fun v=>17-(intOf v).toNat)
 case atStart=>exact ⟨0,rfl,Nat.zero_le _,fun j h=>absurd h (Nat.not_lt_zero _)⟩
 case round =>
  obtain ⟨k,rfl,hk,hall⟩:=hrel;have HA:=Lib.hid hall;clear hall;by_cases hlt:k<17
  · obtain ⟨ad,e,hc⟩:=HS.out.at_ (k:=k) (by rw [HL.out];exact hlt)
    cases e
    obtain ⟨x,hx⟩:∃ x,ls.getD k ByteArray.empty=x:=⟨_,rfl⟩;rw [hx] at hc;have HX:=Lib.hid hx;have k1:decide ((k:Int)<17)=true:=decide_eq_true (by omega);have HLT:=Lib.hid hlt;have KV:=Lib.hid (fun w=>natural_Valid x w)
    cases hv:valid x
    · rw [hv] at KV
      have HF:Hid (ls.all valid=false):=Lib.hid (all_no (k:=k) (by rw [HL.out];exact hlt) (by rw [hx];exact hv));clear hv hx;go_wp2_with (go_at_call 46;(with_reducible refine (KV.out _).mono ?_);rintro e w' ⟨rfl,rfl⟩);go_ret;exact ⟨ret_int (parS_form (by rw [← HLS.out];exact HF.out)).symm,HP1.out.bel⟩
    · rw [hv] at KV
      have HV:=Lib.hid hv;clear hv hx;go_wp2_with (go_at_call 46;(with_reducible refine (KV.out _).mono ?_);rintro e w' ⟨rfl,rfl⟩);go_round
      case rel=>exact ⟨k+1,by go_num,HLT.out,fun j hj=>by
       by_cases e:j=k
       · subst e;rw [HX.out];exact HV.out
       · exact HA.out j (by omega)⟩
      case measure=>exact meas17 HLT.out
  · obtain rfl:k=17:=by omega
    rw [show ((17:Nat):Int)=17 from rfl];have hF:ls.all valid=true:=all_yes (fun j hj=>HA.out j (by rw [HL.out] at hj;omega));rw [HLS.out] at hF;have HF:=Lib.hid hF;clear hlt hF
    go_upto_region 9 with (first
     | (go_at_call 17;(with_reducible refine (natural_Of' 1 1 _ rfl (by decide)).mono ?_);rintro e w3 ⟨rfl,hb3⟩
        have HP3:=Lib.hid (HP1.out.next hb3)
        clear hb3)
     | (go_at_call 17;(with_reducible refine (natural_Of' 2 2 _ rfl (by decide)).mono ?_);rintro e w4 ⟨rfl,hb4⟩
        have HP4:=Lib.hid (HP3.out.next hb4)
        clear hb4))
    have hmm:valid mm=true:=all_at HF.out (k:=9) (by simp);have hmo:valid mo=true:=all_at HF.out (k:=10) (by simp);have KP:=fun wq (hb:Below w.heap.size w wq)=>pg_CheckN (num mm) (num mo) wq (natSmall_bound _ HZ1.out) (natSmall_bound _ HZ2.out) (HT.out.below hb)
    rw [B_num hmm,B_num hmo] at KP;have KG1:=fun wq=>pg_IsGen mm mo mg wq HZ1.out
    have KG2:=fun wq=>pg_IsGen mm mo mh wq HZ1.out
    have KU1:=fun g2 wq h0 h1 h2=>params_Check1 w.heap.size g2 wm wo wg wq HZ3.out h0 h1 h2
    have KU2:=fun g2 wq h0 h1 h2=>params_Check1 w.heap.size g2 wm wo wh wq HZ3.out h0 h1 h2
    obtain ⟨P,hP⟩:∃ P,P=pgN (num mm) (num mo):=⟨_,rfl⟩;obtain ⟨b2,hb2⟩:∃ b,b=genS mm mo mg:=⟨_,rfl⟩;obtain ⟨b3,hb3⟩:∃ b,b=genS mm mo mh:=⟨_,rfl⟩;obtain ⟨b4,hb4⟩:∃ b,b=unitS wm wo wg:=⟨_,rfl⟩;obtain ⟨b5,hb5⟩:∃ b,b=unitS wm wo wh:=⟨_,rfl⟩;have hgr:groupP mm mo mg mh wm wo wg wh=(decide (P=0)&&b2&&b3&&b4&&b5):=by unfold groupP;rw [← hP,← hb2,← hb3,← hb4,← hb5]
    rw [← hP] at KP;rw [← hb2] at KG1;rw [← hb3] at KG2;rw [← hb4] at KU1;rw [← hb5] at KU2;have KP:=Lib.hid KP;have KG1:=Lib.hid KG1;have KG2:=Lib.hid KG2;have KU1:=Lib.hid KU1;have KU2:=Lib.hid KU2;have HGR:=Lib.hid hgr;have HC0:=Lib.hid (CkAt.start HP4.out);clear hmm hmo hP hb2 hb3 hb4 hb5 hgr HP1 HP3 HS HA;obtain ⟨g,hg⟩:∃ g,g=w4.heap.size:=⟨_,rfl⟩;obtain ⟨W,hW⟩:∃ W,W=w4.alloc (.cells #[.string (B 1)] 22):=⟨_,rfl⟩;rw [← hg,← hW] at HC0 ⊢;clear hg hW HP4;go_cut [67] (fun v wx=>v=.bool (!groupP mm mo mg mh wm wo wg wh)∧CkAt w #[.string ch,.string sl,.string mm,.string mo,.string mg,.string mh,.string wm,.string wo,.string wg,.string wh,.string se,.string at_,.string ha,.string el,.string es,.string bl,.string ma] g wx)
    case first =>
     obtain ⟨c2,c3,c4,c5,c6,c7,c8,c9⟩:=HC0.out.par.groups;obtain h|h|h|h|h|h:=chain5 (!decide (P=0)) (!b2) (!b3) (!b4) (!b5)
     all_goals
      simp only [Bool.not_eq_true',Bool.not_eq_false',decide_eq_false_iff_not,decide_eq_true_eq] at h
     · have HR:Hid (groupP mm mo mg mh wm wo wg wh=false):=Lib.hid (by rw [HGR.out,decide_eq_false h];rfl)
       go_wp2_with (first
        | (go_at_call 49;(with_reducible refine (KP.out _ HC0.out.par.bel).mono ?_);rintro e w5 ⟨rfl,hb5⟩;have HC1:=Lib.hid (HC0.out.next hb5);obtain ⟨c2,c3,c4,c5,c6,c7,c8,c9⟩:=HC1.out.par.groups;clear hb5))
       go_meet;exact ⟨by rw [HR.out];rfl,HC1.out⟩
     · obtain ⟨rfl,rfl⟩:=h
       have HR:Hid (groupP mm mo mg mh wm wo wg wh=false):=Lib.hid (by rw [HGR.out];rfl)
       go_wp2_with (first
        | (go_at_call 49;(with_reducible refine (KP.out _ HC0.out.par.bel).mono ?_);rintro e w5 ⟨rfl,hb5⟩;have HC1:=Lib.hid (HC0.out.next hb5);obtain ⟨c2,c3,c4,c5,c6,c7,c8,c9⟩:=HC1.out.par.groups;clear hb5)
        | (go_at_call 50;(with_reducible refine (KG1.out _).mono ?_);rintro e w6 ⟨rfl,hb6⟩;have HC2:=Lib.hid (HC1.out.next hb6);obtain ⟨c2,c3,c4,c5,c6,c7,c8,c9⟩:=HC2.out.par.groups;clear hb6))
       go_meet;exact ⟨by rw [HR.out];rfl,HC2.out⟩
     · obtain ⟨rfl,rfl,rfl⟩:=h
       have HR:Hid (groupP mm mo mg mh wm wo wg wh=false):=Lib.hid (by rw [HGR.out];rfl)
       go_wp2_with (first
        | (go_at_call 49;(with_reducible refine (KP.out _ HC0.out.par.bel).mono ?_);rintro e w5 ⟨rfl,hb5⟩;have HC1:=Lib.hid (HC0.out.next hb5);obtain ⟨c2,c3,c4,c5,c6,c7,c8,c9⟩:=HC1.out.par.groups;clear hb5)
        | (go_at_call 50;(with_reducible refine (KG1.out _).mono ?_);rintro e w6 ⟨rfl,hb6⟩;have HC2:=Lib.hid (HC1.out.next hb6);obtain ⟨c2,c3,c4,c5,c6,c7,c8,c9⟩:=HC2.out.par.groups;clear hb6)
        | (go_at_call 50;(with_reducible refine (KG2.out _).mono ?_);rintro e w7 ⟨rfl,hb7⟩;have HC3:=Lib.hid (HC2.out.next hb7);obtain ⟨c2,c3,c4,c5,c6,c7,c8,c9⟩:=HC3.out.par.groups;clear hb7))
       go_meet;exact ⟨by rw [HR.out];rfl,HC3.out⟩
     · obtain ⟨rfl,rfl,rfl,rfl⟩:=h
       have HR:Hid (groupP mm mo mg mh wm wo wg wh=false):=Lib.hid (by rw [HGR.out];rfl)
       go_wp2_with (first
        | (go_at_call 49;(with_reducible refine (KP.out _ HC0.out.par.bel).mono ?_);rintro e w5 ⟨rfl,hb5⟩;have HC1:=Lib.hid (HC0.out.next hb5);obtain ⟨c2,c3,c4,c5,c6,c7,c8,c9⟩:=HC1.out.par.groups;clear hb5)
        | (go_at_call 50;(with_reducible refine (KG1.out _).mono ?_);rintro e w6 ⟨rfl,hb6⟩;have HC2:=Lib.hid (HC1.out.next hb6);obtain ⟨c2,c3,c4,c5,c6,c7,c8,c9⟩:=HC2.out.par.groups;clear hb6)
        | (go_at_call 50;(with_reducible refine (KG2.out _).mono ?_);rintro e w7 ⟨rfl,hb7⟩;have HC3:=Lib.hid (HC2.out.next hb7);obtain ⟨c2,c3,c4,c5,c6,c7,c8,c9⟩:=HC3.out.par.groups;clear hb7)
        | (go_at_call 47;(with_reducible refine (KU1.out _ _ HC3.out.par.groups.2.2.2.2.1 HC3.out.par.groups.2.2.2.2.2.1 HC3.out.one).mono ?_);rintro e w8 ⟨rfl,hb8⟩;have HC4:=Lib.hid (HC3.out.next hb8);obtain ⟨c2,c3,c4,c5,c6,c7,c8,c9⟩:=HC4.out.par.groups;clear hb8))
       go_meet;exact ⟨by rw [HR.out];rfl,HC4.out⟩
     · obtain ⟨rfl,rfl,rfl,rfl,rfl⟩:=h
       have HR:Hid (groupP mm mo mg mh wm wo wg wh=false):=Lib.hid (by rw [HGR.out];rfl)
       go_wp2_with (first
        | (go_at_call 49;(with_reducible refine (KP.out _ HC0.out.par.bel).mono ?_);rintro e w5 ⟨rfl,hb5⟩;have HC1:=Lib.hid (HC0.out.next hb5);obtain ⟨c2,c3,c4,c5,c6,c7,c8,c9⟩:=HC1.out.par.groups;clear hb5)
        | (go_at_call 50;(with_reducible refine (KG1.out _).mono ?_);rintro e w6 ⟨rfl,hb6⟩;have HC2:=Lib.hid (HC1.out.next hb6);obtain ⟨c2,c3,c4,c5,c6,c7,c8,c9⟩:=HC2.out.par.groups;clear hb6)
        | (go_at_call 50;(with_reducible refine (KG2.out _).mono ?_);rintro e w7 ⟨rfl,hb7⟩;have HC3:=Lib.hid (HC2.out.next hb7);obtain ⟨c2,c3,c4,c5,c6,c7,c8,c9⟩:=HC3.out.par.groups;clear hb7)
        | (go_at_call 47;(with_reducible refine (KU1.out _ _ HC3.out.par.groups.2.2.2.2.1 HC3.out.par.groups.2.2.2.2.2.1 HC3.out.one).mono ?_);rintro e w8 ⟨rfl,hb8⟩;have HC4:=Lib.hid (HC3.out.next hb8);obtain ⟨c2,c3,c4,c5,c6,c7,c8,c9⟩:=HC4.out.par.groups;clear hb8)
        | (go_at_call 47;(with_reducible refine (KU2.out _ _ HC4.out.par.groups.2.2.2.2.1 HC4.out.par.groups.2.2.2.2.2.1 HC4.out.one).mono ?_);rintro e w9 ⟨rfl,hb9⟩;have HC5:=Lib.hid (HC4.out.next hb9);clear hb9))
       go_meet;exact ⟨by rw [HR.out];rfl,HC5.out⟩
     · obtain ⟨rfl,rfl,rfl,rfl,rfl⟩:=h
       have HR:Hid (groupP mm mo mg mh wm wo wg wh=true):=Lib.hid (by rw [HGR.out];rfl)
       go_wp2_with (first
        | (go_at_call 49;(with_reducible refine (KP.out _ HC0.out.par.bel).mono ?_);rintro e w5 ⟨rfl,hb5⟩;have HC1:=Lib.hid (HC0.out.next hb5);obtain ⟨c2,c3,c4,c5,c6,c7,c8,c9⟩:=HC1.out.par.groups;clear hb5)
        | (go_at_call 50;(with_reducible refine (KG1.out _).mono ?_);rintro e w6 ⟨rfl,hb6⟩;have HC2:=Lib.hid (HC1.out.next hb6);obtain ⟨c2,c3,c4,c5,c6,c7,c8,c9⟩:=HC2.out.par.groups;clear hb6)
        | (go_at_call 50;(with_reducible refine (KG2.out _).mono ?_);rintro e w7 ⟨rfl,hb7⟩;have HC3:=Lib.hid (HC2.out.next hb7);obtain ⟨c2,c3,c4,c5,c6,c7,c8,c9⟩:=HC3.out.par.groups;clear hb7)
        | (go_at_call 47;(with_reducible refine (KU1.out _ _ HC3.out.par.groups.2.2.2.2.1 HC3.out.par.groups.2.2.2.2.2.1 HC3.out.one).mono ?_);rintro e w8 ⟨rfl,hb8⟩;have HC4:=Lib.hid (HC3.out.next hb8);obtain ⟨c2,c3,c4,c5,c6,c7,c8,c9⟩:=HC4.out.par.groups;clear hb8)
        | (go_at_call 47;(with_reducible refine (KU2.out _ _ HC4.out.par.groups.2.2.2.2.1 HC4.out.par.groups.2.2.2.2.2.1 HC4.out.one).mono ?_);rintro e w9 ⟨rfl,hb9⟩;have HC5:=Lib.hid (HC4.out.next hb9);clear hb9))
       go_meet;exact ⟨by rw [HR.out];rfl,HC5.out⟩
    case rest =>
     obtain ⟨rfl,hc⟩:=hcut;have HC:=Lib.hid hc;obtain ⟨c2,c3,c4,c5,c6,c7,c8,c9⟩:=hc.par.groups;obtain ⟨c0,c1,c10,c11,c12,c13,c14,c15,c16⟩:=hc.par.bounds;clear hc HC0 KP KG1 KG2 KU1 KU2 HGR c2 c4 c5 c6 c7 c8 c9
     cases hgr:groupP mm mo mg mh wm wo wg wh
     · have HR:=Lib.hid (parS_group HF.out hgr)
       clear hgr;go_wp2_with fail;go_ret;exact ⟨ret_int HR.out.symm,HC.out.par.bel⟩
     · have HGR:=Lib.hid hgr
       clear hgr;go_wp2_with fail;obtain ⟨ns,hns⟩:∃ ns:List ByteArray,ns=[ch,sl,se,at_,ha,el,es,bl,ma]:=⟨_,rfl⟩;have hsn:=SLs.new wc 22 [ch,sl,se,at_,ha,el,es,bl,ma] (wc.alloc (.cells #[.string ch,.string sl,.string se,.string at_,.string ha,.string el,.string es,.string bl,.string ma] 22)).heap.size (by simp);rw [show ([ch,sl,se,at_,ha,el,es,bl,ma].map Value.string).toArray=#[.string ch,.string sl,.string se,.string at_,.string ha,.string el,.string es,.string bl,.string ma] from rfl,← hns] at hsn;have HSN:=Lib.hid hsn;have HNS:=Lib.hid hns;have HNL:=Lib.hid (show ns.length=9 by rw [hns];rfl);have HCN:=Lib.hid (HC.out.next ((Below.refl wc.heap.size wc).alloc (Nat.le_refl _) (.cells #[.string ch,.string sl,.string se,.string at_,.string ha,.string el,.string es,.string bl,.string ma] 22)));clear hsn hns c0 c1 c3 c10 c11 c12 c13 c14 c15 c16 HC;obtain ⟨gn,hgn⟩:∃ gn,gn=wc.heap.size:=⟨_,rfl⟩;obtain ⟨W,hW⟩:∃ W,W=wc.alloc (.cells #[.string ch,.string sl,.string se,.string at_,.string ha,.string el,.string es,.string bl,.string ma] 22):=⟨_,rfl⟩;rw [← hgn,← hW] at HSN;rw [← hW] at HCN;rw [← hgn,← hW];clear hgn hW;go_loop [94] (fun v=>∃ k:Nat,v=.int .i64 k∧k≤9∧∀ j,j<k→decide (2≤num (ns.getD j ByteArray.empty))=true) (fun v=>9-(intOf v).toNat)
       case atStart=>exact ⟨0,rfl,Nat.zero_le _,fun j h=>absurd h (Nat.not_lt_zero _)⟩
       case round =>
        obtain ⟨k,rfl,hk,hall⟩:=hrel;have HA:=Lib.hid hall;clear hall;by_cases hlt:k<9
        · obtain ⟨ad,e,hc⟩:=HSN.out.at_ (k:=k) (by rw [HNL.out];exact hlt)
          cases e
          rw [addr_add,Nat.zero_add] at hc;obtain ⟨x,hx⟩:∃ x,ns.getD k ByteArray.empty=x:=⟨_,rfl⟩;rw [hx] at hc;have HX:=Lib.hid hx;have k1:decide ((k:Int)<9)=true:=decide_eq_true (by omega);have HLT:=Lib.hid hlt
          have hvx:valid x=true:=by
           have h9:k<9:=hlt;have:=all_at HF.out (k:=k) (by simp;omega);rw [← hx,HNS.out]
           rcases k with _|_|_|_|_|_|_|_|_|k<;>first|exact this|omega
          have KV:=fun w=>natural_Cmp x (B 2) w
          rw [natCmp_of hvx (valid_B (by decide)),num_B] at KV;have hneg:=cmpN_neg (x:=num x) (y:=2);obtain ⟨y,hy⟩:∃ y,y=cmpN (num x) 2:=⟨_,rfl⟩;rw [← hy] at KV hneg;have KV:=Lib.hid KV;clear hvx hy;by_cases hv:num x<2
          · have y1:decide (y<0)=true:=decide_eq_true (hneg.2 hv)
            have HB:Hid (twoUp [ch,sl,se,at_,ha,el,es,bl,ma]=false):=Lib.hid (by
             unfold twoUp;rw [← HNS.out]
             exact all_no (p:=fun s=>decide (2≤num s)) (k:=k) (by rw [HNL.out];exact hlt) (by rw [hx];exact decide_eq_false (by omega)))
            clear hv hx hneg;go_wp2_with (go_at_call 43;(with_reducible refine (KV.out _).mono ?_);rintro e w' ⟨rfl,rfl⟩);go_ret;exact ⟨ret_int (parS_two HF.out HGR.out HB.out).symm,HCN.out.par.bel⟩
          · have y1:decide (y<0)=false:=decide_eq_false (fun h=>hv (hneg.1 h))
            have HV:=Lib.hid hv;clear hv hx hneg;go_wp2_with (go_at_call 43;(with_reducible refine (KV.out _).mono ?_);rintro e w' ⟨rfl,rfl⟩);go_round
            case rel =>
             refine ⟨trivial,_,_,_,_,_,_,_,_,_,_,_,?_,rfl⟩
             exact ⟨k+1,by go_num,HLT.out,fun j hj=>by
              by_cases e:j=k
              · subst e;rw [HX.out];exact decide_eq_true (by have:=HV.out;omega)
              · exact HA.out j (by omega)⟩
            case measure=>exact meas9 HLT.out
        · have k1:decide ((k:Int)<9)=false:=decide_eq_false (by omega)
          have hB:twoUp [ch,sl,se,at_,ha,el,es,bl,ma]=true:=by
           unfold twoUp;rw [← HNS.out];exact all_yes (p:=fun s=>decide (2≤num s)) (fun j hj=>HA.out j (by rw [HNL.out] at hj;omega))
          have HB:=Lib.hid hB;clear hlt hB HA;obtain ⟨c0,c1,c10,c11,c12,c13,c14,c15,c16⟩:=HCN.out.par.bounds;clear c1 c12 c13 c14 c15 c16;have hva:valid at_=true:=all_at HF.out (k:=3) (by simp);have hvo:valid mo=true:=all_at HF.out (k:=10) (by simp);have hvc:valid ch=true:=all_at HF.out (k:=0) (by simp);have hvs:valid se=true:=all_at HF.out (k:=2) (by simp);have ha8:=natSmall_bound _ HZ4.out;have hl8:num at_*8<lim:=Nat.lt_trans (show num at_*8<18446744073709551616*8 by omega) (by decide);have KM:=fun w=>natural_MulV (num at_) 8 w (Nat.lt_trans ha8 (by decide)) (by decide) hl8
          rw [B_num hva] at KM;have KA:=fun w=>natural_Cmp (B (num at_*8)) mo w
          rw [natCmp_of (valid_B hl8) hvo,num_B] at KA;have KB:=fun w=>natural_Cmp ch mo w
          rw [natCmp_of hvc hvo] at KB;have KC:=fun w=>natural_Cmp se mo w
          rw [natCmp_of hvs hvo] at KC;have hcp:capP mo ch se at_=(!!decide (8*num at_≤num mo)&&!!decide (num ch≤num mo)&&!!decide (num se≤num mo)):=by unfold capP;simp only [Bool.not_not]
          have hxa:decide (0<cmpN (num at_*8) (num mo))=!decide (8*num at_≤num mo):=cmpN_posd (by omega);have hxb:decide (0<cmpN (num ch) (num mo))=!decide (num ch≤num mo):=cmpN_posd (by omega);have hxc:decide (0<cmpN (num se) (num mo))=!decide (num se≤num mo):=cmpN_posd (by omega);obtain ⟨xa,hya⟩:∃ x,x=cmpN (num at_*8) (num mo):=⟨_,rfl⟩;obtain ⟨xb,hyb⟩:∃ x,x=cmpN (num ch) (num mo):=⟨_,rfl⟩;obtain ⟨xc,hyc⟩:∃ x,x=cmpN (num se) (num mo):=⟨_,rfl⟩;obtain ⟨ba,hba⟩:∃ b,b=!decide (8*num at_≤num mo):=⟨_,rfl⟩;obtain ⟨bb,hbb⟩:∃ b,b=!decide (num ch≤num mo):=⟨_,rfl⟩;obtain ⟨bc,hbc⟩:∃ b,b=!decide (num se≤num mo):=⟨_,rfl⟩;rw [← hya] at KA hxa;rw [← hyb] at KB hxb;rw [← hyc] at KC hxc;rw [← hba] at hxa hcp;rw [← hbb] at hxb hcp;rw [← hbc] at hxc hcp;obtain ⟨M8,hM8⟩:∃ m,m=B (num at_*8):=⟨_,rfl⟩;rw [← hM8] at KM KA;have KM:=Lib.hid KM;have KA:=Lib.hid KA;have KB:=Lib.hid KB;have KC:=Lib.hid KC;have HCP:=Lib.hid hcp;have HXA:=Lib.hid hxa;have HXB:=Lib.hid hxb;have HXC:=Lib.hid hxc;obtain ⟨cs,hcs⟩:∃ cs:Array Value,cs=#[.string ch,.string sl,.string mm,.string mo,.string mg,.string mh,.string wm,.string wo,.string wg,.string wh,.string se,.string at_,.string ha,.string el,.string es,.string bl,.string ma]:=⟨_,rfl⟩;have HP:Hid (BoxPar w W cs):=Lib.hid (by rw [hcs];exact HCN.out.par);have HC11:Hid (cs[11]?=some (.string at_)):=Lib.hid (by rw [hcs];rfl);have HCS:=Lib.hid hcs;clear hcs hva hvo hvc hvs ha8 hl8 hcp hya hyb hyc hba hbb hbc hM8 hxa hxb hxc HCN HSN HNS HNL
          go_upto_region 18 with fail
          go_cut [11,12] (fun a b wx=>a=.string M8∧b=.int .i64 0∧BoxPar w wx cs)
          case first =>
           go_region_held3 (fun w'=>w'.cell? ⟨w.heap.size,11,none⟩=some (.string at_)) (first|go_keep) (first
            | (go_at_call 17;(with_reducible refine (natural_Of' 8 8 _ rfl (by decide)).mono ?_);rintro e w3 ⟨rfl,hb3⟩
               have HP3:Hid (BoxPar w w3 cs):=by first|exact Lib.hid (HP.out.next hb3)|exact Lib.hid ((HP.out.next (Below.refl _ _).drew).next hb3)
               have c11:=(HP3.out.cell 11).trans HC11.out
               clear hb3)
            | (go_at_call 51;(with_reducible refine (KM.out _).mono ?_);rintro e w4 ⟨rfl,hb4⟩
               have HP4:Hid (BoxPar w w4 cs):=by first|exact Lib.hid (HP3.out.next hb4)|exact Lib.hid ((HP3.out.next (Below.refl _ _).drew).next hb4)
               have c11:=(HP4.out.cell 11).trans HC11.out
               clear hb4))
           all_goals
            go_wp2_with fail;go_meet;exact ⟨rfl,rfl,by first|exact HP4.out|exact HP4.out.next (Below.refl _ _).drew⟩
          case rest =>
           obtain ⟨rfl,rfl,hp⟩:=hcut;have HX:=Lib.hid hp;rw [HCS.out] at hp;obtain ⟨c0,c1,c10,c11,c12,c13,c14,c15,c16⟩:=hp.bounds;have hxa:=HXA.out;have hxb:=HXB.out;have hxc:=HXC.out;clear hp c1 c12 c13 c14 c15 c16 HXA HXB HXC HP;obtain h|h|h|h:=chain3 ba bb bc
           · have HR:Hid (capP mo ch se at_=false):=Lib.hid (by rw [HCP.out,h];rfl)
             have t1:=hxa.trans h;clear h hxa hxb hxc
             go_wp2_with (first
              | (go_at_call 43;(with_reducible refine (KA.out _).mono ?_);rintro e w5 ⟨rfl,rfl⟩))
             go_ret;exact ⟨ret_int (parS_cap HF.out HGR.out HB.out HR.out).symm,HX.out.bel⟩
           · have HR:Hid (capP mo ch se at_=false):=Lib.hid (by rw [HCP.out,h.1,h.2];rfl)
             have t1:=hxa.trans h.1;have t2:=hxb.trans h.2;clear h hxa hxb hxc
             go_wp2_with (first
              | (go_at_call 43;(with_reducible refine (KA.out _).mono ?_);rintro e w5 ⟨rfl,rfl⟩)
              | (go_at_call 43;(with_reducible refine (KB.out _).mono ?_);rintro e w6 ⟨rfl,rfl⟩))
             go_ret;exact ⟨ret_int (parS_cap HF.out HGR.out HB.out HR.out).symm,HX.out.bel⟩
           · have HR:Hid (capP mo ch se at_=false):=Lib.hid (by rw [HCP.out,h.1,h.2.1,h.2.2];rfl)
             have t1:=hxa.trans h.1;have t2:=hxb.trans h.2.1;have t3:=hxc.trans h.2.2;clear h hxa hxb hxc
             go_wp2_with (first
              | (go_at_call 43;(with_reducible refine (KA.out _).mono ?_);rintro e w5 ⟨rfl,rfl⟩)
              | (go_at_call 43;(with_reducible refine (KB.out _).mono ?_);rintro e w6 ⟨rfl,rfl⟩)
              | (go_at_call 43;(with_reducible refine (KC.out _).mono ?_);rintro e w7 ⟨rfl,rfl⟩))
             go_ret;exact ⟨ret_int (parS_cap HF.out HGR.out HB.out HR.out).symm,HX.out.bel⟩
           · have HR:Hid (capP mo ch se at_=true):=Lib.hid (by rw [HCP.out,h.1,h.2.1,h.2.2];rfl)
             have t1:=hxa.trans h.1;have t2:=hxb.trans h.2.1;have t3:=hxc.trans h.2.2;clear h hxa hxb hxc
             go_wp2_with (first
              | (go_at_call 43;(with_reducible refine (KA.out _).mono ?_);rintro e w5 ⟨rfl,rfl⟩)
              | (go_at_call 43;(with_reducible refine (KB.out _).mono ?_);rintro e w6 ⟨rfl,rfl⟩)
              | (go_at_call 43;(with_reducible refine (KC.out _).mono ?_);rintro e w7 ⟨rfl,rfl⟩))
             go_ret;exact ⟨ret_int (parS_ok HF.out HGR.out HB.out HR.out).symm,HX.out.bel⟩
end Go.Proofs.YtiacajjpkncomaaGreatDoor
