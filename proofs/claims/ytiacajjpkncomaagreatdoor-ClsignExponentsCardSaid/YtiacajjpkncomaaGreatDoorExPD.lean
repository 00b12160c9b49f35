/- The walk of the reference's Check of parameters. -/
import Derived.Test.YtiacajjpkncomaaGreatDoorExPC
import Derived.Test.YtiacajjpkncomaaGreatDoorExJ5
import Derived.Test.YtiacajjpkncomaaGreatDoorExJ6
import Derived.BigQuiet
namespace Go.Proofs.YtiacajjpkncomaaGreatDoor
open Go.RowKit
set_option maxRecDepth 100000
set_option linter.unusedVariables false
set_option maxHeartbeats 4000000
theorem parPerm {ch sl mm mo mg mh wm wo wg wh se at_ ha el es bl ma:ByteArray} :
  [ch,sl,mm,mo,mg,mh,wm,wo,wg,wh,se,at_,ha,el,es,bl,ma].all valid=[ch,sl,se,at_,ha,el,es,bl,ma,mm,mo,mg,mh,wm,wo,wg,wh].all valid:=by
 simp only [List.all_cons,List.all_nil]
 ac_rfl
structure RfAt (w:World) (cs:Array Value) (g5 g6:Nat) (mm mo wm wo:ByteArray) (wx:World):Prop where
 par:BoxPar w wx cs
 c0:wx.cell? ⟨g5,0,none⟩=some (.string mm)
 c1:wx.cell? ⟨g5,1,none⟩=some (.string mo)
 d0:wx.cell? ⟨g6,0,none⟩=some (.string wm)
 d1:wx.cell? ⟨g6,1,none⟩=some (.string wo)
theorem RfAt.next {w wx wy:World} {cs:Array Value} {g5 g6:Nat} {mm mo wm wo:ByteArray} (h:RfAt w cs g5 g6 mm mo wm wo wx) (hb:Below wx.heap.size wx wy):RfAt w cs g5 g6 mm mo wm wo wy :=
 ⟨h.par.next hb,(hb.cell (cell_in' h.c0)).trans h.c0,(hb.cell (cell_in' h.c1)).trans h.c1,(hb.cell (cell_in' h.d0)).trans h.d0,(hb.cell (cell_in' h.d1)).trans h.d1⟩
theorem RfAt.gens {w wx:World} {cs:Array Value} {g5 g6:Nat} {ch sl mm mo mg mh wm wo wg wh se at_ ha el es bl ma:ByteArray} (h:RfAt w cs g5 g6 mm mo wm wo wx) (hcs:cs=#[.string ch,.string sl,.string mm,.string mo,.string mg,.string mh,.string wm,.string wo,.string wg,.string wh,.string se,.string at_,.string ha,.string el,.string es,.string bl,.string ma]) :
  wx.cell? ⟨g5,0,none⟩=some (.string mm)∧wx.cell? ⟨g5,1,none⟩=some (.string mo)∧wx.cell? ⟨w.heap.size,4,none⟩=some (.string mg)∧wx.cell? ⟨w.heap.size,5,none⟩=some (.string mh) :=
 ⟨h.c0,h.c1,(h.par.cell 4).trans (by rw [hcs];rfl),(h.par.cell 5).trans (by rw [hcs];rfl)⟩
theorem pgN_empty {a:Nat} {o:ByteArray} (hv:valid o=true) (h:o.toList.isEmpty=true):decide (pgN a (num o)=0)=false:=by
 rw [← B_num hv,B_isEmpty,decide_eq_true_eq] at h;refine decide_eq_false ?_;unfold pgN;rw [h,isS_small (n:=0) (by decide)]
 split<;>simp
structure BoxG2 (w:World) (cs:Array Value) (g6:Nat) (wm wo:ByteArray) (wx:World):Prop where
 par:BoxPar w wx cs
 d0:wx.cell? ⟨g6,0,none⟩=some (.string wm)
 d1:wx.cell? ⟨g6,1,none⟩=some (.string wo)
theorem BoxG2.next {w wx wy:World} {cs:Array Value} {g6:Nat} {wm wo:ByteArray} (h:BoxG2 w cs g6 wm wo wx) (hb:Below wx.heap.size wx wy):BoxG2 w cs g6 wm wo wy :=
 ⟨h.par.next hb,(hb.cell (cell_in' h.d0)).trans h.d0,(hb.cell (cell_in' h.d1)).trans h.d1⟩
theorem BoxG2.all {w wx:World} {cs:Array Value} {g6:Nat} {wm wo:ByteArray} {g x:Value} (h:BoxG2 w cs g6 wm wo wx) (hc:cs[8]?=some g∧cs[9]?=some x) :
  wx.cell? ⟨g6,0,none⟩=some (.string wm)∧wx.cell? ⟨g6,1,none⟩=some (.string wo)∧wx.cell? ⟨w.heap.size,8,none⟩=some g∧wx.cell? ⟨w.heap.size,9,none⟩=some x :=
 ⟨h.d0,h.d1,(h.par.cell 8).trans hc.1,(h.par.cell 9).trans hc.2⟩
theorem goodS_parts {m o:ByteArray} {eo bt b8:Bool} (hv:valid m=true) (h0:o.toList.isEmpty=eo) (h1:bt=natBit m 0) (h2:b8=decide (8<num m)):goodS m o=(eo&&bt&&b8):=by
 unfold goodS;rw [hv,h0,← h1,h2,natCmp_of hv (valid_B (by decide)),num_B];rw [show decide (0<cmpN (num m) 8)=decide (8<num m) from (cmpN_posd (p:=¬ 8<num m) (by omega)).trans (by by_cases h:8<num m<;>simp [h])];simp
theorem RfAt.caps {w wx:World} {cs:Array Value} {g5 g6:Nat} {ch sl mm mo mg mh wm wo wg wh se at_ ha el es bl ma:ByteArray} (h:RfAt w cs g5 g6 mm mo wm wo wx) (hcs:cs=#[.string ch,.string sl,.string mm,.string mo,.string mg,.string mh,.string wm,.string wo,.string wg,.string wh,.string se,.string at_,.string ha,.string el,.string es,.string bl,.string ma]) :
  wx.cell? ⟨g5,1,none⟩=some (.string mo)∧wx.cell? ⟨w.heap.size,0,none⟩=some (.string ch)∧wx.cell? ⟨w.heap.size,1,none⟩=some (.string sl)∧wx.cell? ⟨w.heap.size,10,none⟩=some (.string se)∧wx.cell? ⟨w.heap.size,11,none⟩=some (.string at_) :=
 ⟨h.c1,(h.par.cell 0).trans (by rw [hcs];rfl),(h.par.cell 1).trans (by rw [hcs];rfl),(h.par.cell 10).trans (by rw [hcs];rfl),(h.par.cell 11).trans (by rw [hcs];rfl)⟩
theorem RfAt.rest5 {w wx:World} {cs:Array Value} {g5 g6:Nat} {ch sl mm mo mg mh wm wo wg wh se at_ ha el es bl ma:ByteArray} (h:RfAt w cs g5 g6 mm mo wm wo wx) (hcs:cs=#[.string ch,.string sl,.string mm,.string mo,.string mg,.string mh,.string wm,.string wo,.string wg,.string wh,.string se,.string at_,.string ha,.string el,.string es,.string bl,.string ma]) :
  wx.cell? ⟨w.heap.size,12,none⟩=some (.string ha)∧wx.cell? ⟨w.heap.size,13,none⟩=some (.string el)∧wx.cell? ⟨w.heap.size,14,none⟩=some (.string es)∧wx.cell? ⟨w.heap.size,15,none⟩=some (.string bl)∧wx.cell? ⟨w.heap.size,16,none⟩=some (.string ma) :=
 ⟨(h.par.cell 12).trans (by rw [hcs];rfl),(h.par.cell 13).trans (by rw [hcs];rfl),(h.par.cell 14).trans (by rw [hcs];rfl),(h.par.cell 15).trans (by rw [hcs];rfl),(h.par.cell 16).trans (by rw [hcs];rfl)⟩
theorem chain7 (a b c d e f g:Bool):a=true∨(a=false∧b=true)∨(a=false∧b=false∧c=true)∨(a=false∧b=false∧c=false∧d=true)∨(a=false∧b=false∧c=false∧d=false∧e=true)∨(a=false∧b=false∧c=false∧d=false∧e=false∧f=true)∨(a=false∧b=false∧c=false∧d=false∧e=false∧f=false∧g=true)∨(a=false∧b=false∧c=false∧d=false∧e=false∧f=false∧g=false):=by
 cases a<;>cases b<;>cases c<;>cases d<;>cases e<;>cases f<;>cases g<;>simp
theorem two_cap {ch sl se at_ ha el es bl ma mo:ByteArray}:(twoUp [ch,sl,se,at_,ha,el,es,bl,ma]&&capP mo ch se at_) =
  (!(decide (num ch<2)||decide (num mo<num ch)||decide (num sl<2)||decide (num se<2)||decide (num mo<num se)||decide (num at_<2)||decide (num mo<8*num at_))&&!(decide (num ha<2)||decide (num el<2)||decide (num es<2)||decide (num bl<2)||decide (num ma<2))):=by
 unfold twoUp capP;rw [Bool.eq_iff_iff];simp only [List.all_cons,List.all_nil,Bool.and_true,Bool.and_eq_true,Bool.not_eq_true',Bool.or_eq_false_iff,decide_eq_true_eq,decide_eq_false_iff_not];omega
theorem parS_both {ch sl mm mo mg mh wm wo wg wh se at_ ha el es bl ma:ByteArray} (h:[ch,sl,se,at_,ha,el,es,bl,ma,mm,mo,mg,mh,wm,wo,wg,wh].all valid=true) (h2:groupP mm mo mg mh wm wo wg wh=true) (h3:(twoUp [ch,sl,se,at_,ha,el,es,bl,ma]&&capP mo ch se at_)=true) :
  parS ch sl mm mo mg mh wm wo wg wh se at_ ha el es bl ma=0:=by
 rw [Bool.and_eq_true] at h3;exact parS_ok h h2 h3.1 h3.2
theorem parS_fall {ch sl mm mo mg mh wm wo wg wh se at_ ha el es bl ma:ByteArray} (h:[ch,sl,se,at_,ha,el,es,bl,ma,mm,mo,mg,mh,wm,wo,wg,wh].all valid=true) (h2:groupP mm mo mg mh wm wo wg wh=true) (h3:(twoUp [ch,sl,se,at_,ha,el,es,bl,ma]&&capP mo ch se at_)=false) :
  parS ch sl mm mo mg mh wm wo wg wh se at_ ha el es bl ma=2:=by
 rw [Bool.and_eq_false_iff] at h3
 cases ht:twoUp [ch,sl,se,at_,ha,el,es,bl,ma]
 · exact parS_two h h2 ht
 · rcases h3 with h3|h3
   · rw [ht] at h3;cases h3
   · exact parS_cap h h2 ht h3
theorem r11_Check (ch sl mm mo mg mh wm wo wg wh se at_ ha el es bl ma:ByteArray) (w:World) (z1:mm.size≤8) (z2:mo.size≤8) (z3:wm.size≤8) (z4:at_.size≤8) :
  Calls Tryz.prog 26 #[.agg #[.string ch,.string sl,.string mm,.string mo,.string mg,.string mh,.string wm,.string wo,.string wg,.string wh,.string se,.string at_,.string ha,.string el,.string es,.string bl,.string ma]] w fun e w'=>e=.returned (.int .i64 (parS ch sl mm mo mg mh wm wo wg wh se at_ ha el es bl ma))∧Below w.heap.size w w':=by
 have KN:=Lib.hid (fun w=>r11_Numbers ch sl mm mo mg mh wm wo wg wh se at_ ha el es bl ma w);have HP0:=Lib.hid (BoxPar.start w #[.string ch,.string sl,.string mm,.string mo,.string mg,.string mh,.string wm,.string wo,.string wg,.string wh,.string se,.string at_,.string ha,.string el,.string es,.string bl,.string ma]);obtain ⟨ls,hls⟩:∃ ls:List ByteArray,ls=[ch,sl,mm,mo,mg,mh,wm,wo,wg,wh,se,at_,ha,el,es,bl,ma]:=⟨_,rfl⟩;have hlen:ls.length=17:=by rw [hls];rfl
 rw [← hls] at KN;have HL:=Lib.hid hlen;have HLS:=Lib.hid hls;have HZ1:=Lib.hid z1;have HZ2:=Lib.hid z2;have HZ3:=Lib.hid z3;have HZ4:=Lib.hid z4;clear hls hlen z1 z2 z3 z4
 go_enter Tryz.func26, Tryz.ntmps26
 go_wp2_with (first
  | (refine wpList_load_row rfl 30 _ rfl w.heap.size rfl _ _ _ _ (heap_alloc_new w _) Tryz.underlying30 rfl (info17.trans rfl) ?_)
  | (go_at_call 61;(with_reducible refine (KN.out _).mono ?_);rintro e w1 ⟨⟨gl,rfl,hsl⟩,hb1⟩
     have HS:=Lib.hid hsl;have HP1:=Lib.hid (HP0.out.next hb1)
     clear hsl hb1))
 clear KN HP0;go_loop [4] (fun v=>∃ k:Nat,v=.int .i64 k∧k≤17∧∀ j,j<k→valid (ls.getD j ByteArray.empty)=true) (fun v=>17-(intOf v).toNat)
 case atStart=>exact ⟨0,rfl,Nat.zero_le _,fun j h=>absurd h (Nat.not_lt_zero _)⟩
 case round =>
  obtain ⟨k,rfl,hk,hall⟩:=hrel;have HA:=Lib.hid hall;clear hall;by_cases hlt:k<17
  · obtain ⟨ad,e,hc⟩:=HS.out.at_ (k:=k) (by rw [HL.out];exact hlt)
    cases e
    rw [addr_add] at hc;obtain ⟨x,hx⟩:∃ x,ls.getD k ByteArray.empty=x:=⟨_,rfl⟩;rw [hx] at hc;have HX:=Lib.hid hx;have k1:decide ((k:Int)<17)=true:=decide_eq_true (by omega);have HLT:=Lib.hid hlt;rw [Nat.zero_add] at hc;have KV:=Lib.hid (fun w=>r01_Valid x w)
    cases hv:valid x
    · rw [hv] at KV
      have HF:Hid (ls.all valid=false):=Lib.hid (all_no (k:=k) (by rw [HL.out];exact hlt) (by rw [hx];exact hv));clear hv hx;go_wp2_with (go_at_call 62;(with_reducible refine (KV.out _).mono ?_);rintro e w' ⟨rfl,rfl⟩);go_ret;exact ⟨ret_int (parS_form (by rw [← parPerm,← HLS.out];exact HF.out)).symm,HP1.out.bel⟩
    · rw [hv] at KV
      have HV:=Lib.hid hv;clear hv hx;go_wp2_with (go_at_call 62;(with_reducible refine (KV.out _).mono ?_);rintro e w' ⟨rfl,rfl⟩);go_round
      case rel=>exact ⟨k+1,by go_num,HLT.out,fun j hj=>by
       by_cases e:j=k
       · subst e;rw [HX.out];exact HV.out
       · exact HA.out j (by omega)⟩
      case measure=>exact meas17 HLT.out
  · obtain rfl:k=17:=by omega
    rw [show ((17:Nat):Int)=17 from rfl];have hF:ls.all valid=true:=all_yes (fun j hj=>HA.out j (by rw [HL.out] at hj;omega));rw [HLS.out,parPerm] at hF;have HF:=Lib.hid hF;clear hlt hF HA;obtain ⟨cs,hcs⟩:∃ cs:Array Value,cs=#[.string ch,.string sl,.string mm,.string mo,.string mg,.string mh,.string wm,.string wo,.string wg,.string wh,.string se,.string at_,.string ha,.string el,.string es,.string bl,.string ma]:=⟨_,rfl⟩;have HP:Hid (BoxPar w w1 cs):=Lib.hid (by rw [hcs];exact HP1.out);have HCS:=Lib.hid hcs;obtain ⟨c2,c3,c4,c5,c6,c7,c8,c9⟩:=HP1.out.groups;have hlt:w.heap.size<w1.heap.size:=cell_in' c2;clear hcs HP1 HS HL HLS c4 c5 c8 c9;go_upto_region 7 with fail
    go_cut [5,6] (fun a b wx=>∃ g5 g6:Nat,a=.pointer (some ⟨g5,0,none⟩)∧b=.pointer (some ⟨g6,0,none⟩)∧RfAt w cs g5 g6 mm mo wm wo wx)
    case first =>
     go_region
     all_goals
      go_wp2_with fail;go_meet;exact ⟨_,_,rfl,rfl,⟨HP.out.next (((Below.refl _ _).alloc (Nat.le_refl _) _).alloc (by simp) _).drew,by simp [go_sem],by simp [go_sem],by simp [go_sem],by simp [go_sem]⟩⟩
    case rest =>
     obtain ⟨g5,g6,rfl,rfl,hr⟩:=hcut;have HC0:=Lib.hid hr;clear hr HP c2 c3 c6 c7 hlt;have hmm:valid mm=true:=all_at HF.out (k:=9) (by simp);have hmo:valid mo=true:=all_at HF.out (k:=10) (by simp);have KP:=fun wq=>r09_Check (num mm) (num mo) wq (natSmall_bound _ HZ1.out) (natSmall_bound _ HZ2.out)
     rw [B_num hmm,B_num hmo] at KP;have KG1:=fun wq=>r09_IsGen mm mo mg wq HZ1.out
     have KG2:=fun wq=>r09_IsGen mm mo mh wq HZ1.out
     obtain ⟨P,hP⟩:∃ P,P=pgN (num mm) (num mo):=⟨_,rfl⟩;obtain ⟨b2,hb2⟩:∃ b,b=genS mm mo mg:=⟨_,rfl⟩;obtain ⟨b3,hb3⟩:∃ b,b=genS mm mo mh:=⟨_,rfl⟩;have HPE:Hid (mo.toList.isEmpty=true→decide (P=0)=false):=Lib.hid (by rw [hP];exact pgN_empty hmo);have hgr:groupP mm mo mg mh wm wo wg wh=(decide (P=0)&&b2&&b3&&unitS wm wo wg&&unitS wm wo wh):=by unfold groupP;rw [← hP,← hb2,← hb3]
     rw [← hP] at KP;rw [← hb2] at KG1;rw [← hb3] at KG2;have KP:=Lib.hid KP;have KG1:=Lib.hid KG1;have KG2:=Lib.hid KG2;have HGR:=Lib.hid hgr;obtain ⟨em,hem⟩:∃ em,mo.toList.isEmpty=em:=⟨_,rfl⟩;have HEM:=Lib.hid hem;obtain ⟨A,hA⟩:∃ A,A=(em||!decide (P=0)||!b2||!b3):=⟨_,rfl⟩;have HA:=Lib.hid hA
     have HAG:Hid (A=true→groupP mm mo mg mh wm wo wg wh=false):=Lib.hid (by
      have h1:=HPE.out;rw [hem] at h1;rw [hA,hgr]
      cases em<;>cases hd:decide (P=0)<;>cases b2<;>cases b3<;>simp_all)
     have HAO:Hid (A=false→groupP mm mo mg mh wm wo wg wh=(unitS wm wo wg&&unitS wm wo wh)):=Lib.hid (by
      rw [hA,hgr]
      cases em<;>cases hd:decide (P=0)<;>cases b2<;>cases b3<;>simp_all)
     clear hmm hmo hP hb2 hb3 hgr hA;go_upto_region 8 with fail
     go_cut [53] (fun v wx=>v=.bool A∧RfAt w cs g5 g6 mm mo wm wo wx)
     case first =>
      obtain ⟨c0,c1,c4,c5⟩:=HC0.out.gens HCS.out;obtain h|h|h|h|h:=chain4 em (!decide (P=0)) (!b2) (!b3)
      all_goals
       try simp only [Bool.not_eq_true',Bool.not_eq_false'] at h
      · as_aux_lemma =>
        have HR:Hid (A=true):=Lib.hid (by rw [HA.out,h];rfl);rw [h] at hem;clear h;go_wp2_with fail;go_meet;exact ⟨by rw [HR.out],HC0.out⟩
      · as_aux_lemma =>
        obtain ⟨h0,h1⟩:=h;have HR:Hid (A=true):=Lib.hid (by rw [HA.out,h0,h1];rfl);rw [h0] at hem;have hP:¬ P=0:=of_decide_eq_false (by simpa using h1);clear h0 h1
        go_wp2_with (first
         | (go_at_call 63;(with_reducible refine (KP.out _).mono ?_);rintro e w5 ⟨rfl,hb5⟩;have HC1:=Lib.hid (HC0.out.next hb5);obtain ⟨c0,c1,c4,c5⟩:=HC1.out.gens HCS.out;clear hb5))
        go_meet;exact ⟨by rw [HR.out],HC1.out⟩
      · as_aux_lemma =>
        obtain ⟨h0,h1,rfl⟩:=h;have HR:Hid (A=true):=Lib.hid (by rw [HA.out,h0,h1];rfl);rw [h0] at hem;obtain rfl:P=0:=of_decide_eq_true (by simpa using h1);clear h0 h1
        go_wp2_with (first
         | (go_at_call 63;(with_reducible refine (KP.out _).mono ?_);rintro e w5 ⟨rfl,hb5⟩;have HC1:=Lib.hid (HC0.out.next hb5);obtain ⟨c0,c1,c4,c5⟩:=HC1.out.gens HCS.out;clear hb5)
         | (go_at_call 64;(with_reducible refine (KG1.out _).mono ?_);rintro e w6 ⟨rfl,hb6⟩;have HC2:=Lib.hid (HC1.out.next hb6);obtain ⟨c0,c1,c4,c5⟩:=HC2.out.gens HCS.out;clear hb6))
        go_meet;exact ⟨by rw [HR.out],HC2.out⟩
      · as_aux_lemma =>
        obtain ⟨h0,h1,rfl,rfl⟩:=h;have HR:Hid (A=true):=Lib.hid (by rw [HA.out,h0,h1];rfl);rw [h0] at hem;obtain rfl:P=0:=of_decide_eq_true (by simpa using h1);clear h0 h1
        go_wp2_with (first
         | (go_at_call 63;(with_reducible refine (KP.out _).mono ?_);rintro e w5 ⟨rfl,hb5⟩;have HC1:=Lib.hid (HC0.out.next hb5);obtain ⟨c0,c1,c4,c5⟩:=HC1.out.gens HCS.out;clear hb5)
         | (go_at_call 64;(with_reducible refine (KG1.out _).mono ?_);rintro e w6 ⟨rfl,hb6⟩;have HC2:=Lib.hid (HC1.out.next hb6);obtain ⟨c0,c1,c4,c5⟩:=HC2.out.gens HCS.out;clear hb6)
         | (go_at_call 64;(with_reducible refine (KG2.out _).mono ?_);rintro e w7 ⟨rfl,hb7⟩;have HC3:=Lib.hid (HC2.out.next hb7);clear hb7))
        go_meet;exact ⟨by rw [HR.out],HC3.out⟩
      · as_aux_lemma =>
        obtain ⟨h0,h1,rfl,rfl⟩:=h;have HR:Hid (A=false):=Lib.hid (by rw [HA.out,h0,h1];rfl);rw [h0] at hem;obtain rfl:P=0:=of_decide_eq_true (by simpa using h1);clear h0 h1
        go_wp2_with (first
         | (go_at_call 63;(with_reducible refine (KP.out _).mono ?_);rintro e w5 ⟨rfl,hb5⟩;have HC1:=Lib.hid (HC0.out.next hb5);obtain ⟨c0,c1,c4,c5⟩:=HC1.out.gens HCS.out;clear hb5)
         | (go_at_call 64;(with_reducible refine (KG1.out _).mono ?_);rintro e w6 ⟨rfl,hb6⟩;have HC2:=Lib.hid (HC1.out.next hb6);obtain ⟨c0,c1,c4,c5⟩:=HC2.out.gens HCS.out;clear hb6)
         | (go_at_call 64;(with_reducible refine (KG2.out _).mono ?_);rintro e w7 ⟨rfl,hb7⟩;have HC3:=Lib.hid (HC2.out.next hb7);clear hb7))
        go_meet;exact ⟨by rw [HR.out],HC3.out⟩
     case rest =>
      obtain ⟨rfl,hr⟩:=hcut;have HC3:=Lib.hid hr;clear hr HC0 KP KG1 KG2;have HU:Hid (BoxG2 w cs g6 wm wo wc):=Lib.hid ⟨HC3.out.par,HC3.out.d0,HC3.out.d1⟩
      cases hAv:A
      · have HG0:=Lib.hid (HAO.out hAv)
        clear hAv;have hvm:valid wm=true:=all_at HF.out (k:=13) (by simp);go_upto_region 10 with fail
        have KB:=fun w=>r01_Bit wm 0 0 w rfl (by decide)
        have KL:=fun w=>r11_less (B 8) wm w (valid_B (by decide)) hvm
        rw [num_B] at KL;have KU1:=fun w=>r11_unit wm wo wg w HZ3.out
        have KU2:=fun w=>r11_unit wm wo wh w HZ3.out
        obtain ⟨eo,heo⟩:∃ e,wo.toList.isEmpty=e:=⟨_,rfl⟩;obtain ⟨bt,hbt⟩:∃ b,b=natBit wm 0:=⟨_,rfl⟩;obtain ⟨b8,hb8⟩:∃ b,b=decide (8<num wm):=⟨_,rfl⟩;obtain ⟨u4,hu4⟩:∃ b,b=unitS wm wo wg:=⟨_,rfl⟩;obtain ⟨u5,hu5⟩:∃ b,b=unitS wm wo wh:=⟨_,rfl⟩;have hgd:goodS wm wo=(eo&&bt&&b8):=goodS_parts hvm heo hbt hb8;rw [← hbt] at KB;rw [← hb8] at KL;rw [← hu4] at KU1 HG0;rw [← hu5] at KU2 HG0
        have hu:(eo&&bt&&b8)=false→u4=false:=fun h=>by
         rw [hu4]
         cases hq:unitS wm wo wg
         · rfl
         · rw [← hgd,unitS_mod hq] at h;cases h
        have KB:=Lib.hid KB;have KL:=Lib.hid KL;have KU1:=Lib.hid KU1;have KU2:=Lib.hid KU2;obtain ⟨Bv,hBv⟩:∃ b,b=(!eo||!bt||!b8||!u4||!u5):=⟨_,rfl⟩
        have HBv:Hid (groupP mm mo mg mh wm wo wg wh=!Bv):=Lib.hid (by
         rw [HG0.out,hBv]
         cases eo<;>cases bt<;>cases b8<;>cases u4<;>cases u5<;>simp_all)
        have HBV:=Lib.hid hBv;have HCV:Hid (cs[8]?=some (.string wg)∧cs[9]?=some (.string wh)):=Lib.hid (by rw [HCS.out];exact ⟨rfl,rfl⟩);clear hvm hbt hb8 hu4 hu5 hgd hu hBv HG0;go_cut [85] (fun v wx=>v=.bool Bv∧RfAt w cs g5 g6 mm mo wm wo wx)
        case first =>
         obtain ⟨d0,d1,c8,c9⟩:=HU.out.all HCV.out;obtain h|h|h|h|h|h:=chain5 (!eo) (!bt) (!b8) (!u4) (!u5)
         all_goals
          try simp only [Bool.not_eq_true',Bool.not_eq_false'] at h
         · as_aux_lemma =>
           have HR:Hid (Bv=true):=Lib.hid (by rw [HBV.out,h];rfl);rw [h] at heo;clear h;go_wp2_with fail;go_quiet (fail);go_wp2_with fail;go_meet;exact ⟨by rw [HR.out],HC3.out.next (below_drewN (Below.refl _ _) _)⟩
         · as_aux_lemma =>
           obtain ⟨h0,rfl⟩:=h;have HR:Hid (Bv=true):=Lib.hid (by rw [HBV.out,h0];rfl);rw [h0] at heo;clear h0;go_wp2_with fail;go_quiet ((go_at_call 65;exact quiet_of_eq (KB.out _)));go_wp2_with fail;go_meet;exact ⟨by rw [HR.out],HC3.out.next (below_drewN (Below.refl _ _) _)⟩
         · as_aux_lemma =>
           obtain ⟨h0,rfl,rfl⟩:=h;have HR:Hid (Bv=true):=Lib.hid (by rw [HBV.out,h0];rfl);have HR0:Hid (RfAt w cs g5 g6 mm mo wm wo wc):=HC3;rw [h0] at heo;clear h0;go_wp2_with fail;refine wp_region_held_drew (S:=(fun w'=>w'.cell? ⟨g6,0,none⟩=some (.string wm)∧w'.cell? ⟨g6,1,none⟩=some (.string wo)∧w'.cell? ⟨w.heap.size,8,none⟩=some (.string wg)∧w'.cell? ⟨w.heap.size,9,none⟩=some (.string wh))) (by kernel_rfl) ?_ (fun hHeld=>?_)
           · exact HU.out.all HCV.out
           refine tk (i:=0) (v:=?_) 54 rfl (.inl ⟨by rfl,?_⟩) ?_;rotate_left
           · intro w hSw;(try dsimp only at hSw);go_simp<;>with_reducible rfl
           try simp only [Act.put,sT,List.set]
           refine tk (i:=1) (v:=?_) 55 rfl (.inl ⟨by rfl,?_⟩) ?_;rotate_left
           · intro w hSw;(try dsimp only at hSw);go_simp<;>with_reducible rfl
           try simp only [Act.put,sT,List.set]
           refine tk (i:=2) (v:=?_) 56 rfl (.inl ⟨by rfl,?_⟩) ?_;rotate_left
           · intro w hSw;(try dsimp only at hSw);go_simp<;>with_reducible rfl
           try simp only [Act.put,sT,List.set]
           refine tk (i:=3) (v:=?_) 57 rfl (.inl ⟨by rfl,?_⟩) ?_;rotate_left
           · intro w hSw;(try dsimp only at hSw);go_simp<;>with_reducible rfl
           try simp only [Act.put,sT,List.set]
           refine tk (i:=4) (v:=?_) 58 rfl (.inl ⟨by rfl,?_⟩) ?_;rotate_left
           · intro w hSw;(try dsimp only at hSw);go_simp<;>with_reducible rfl
           try simp only [Act.put,sT,List.set]
           refine tk (i:=5) (v:=?_) 59 rfl (.inl ⟨by rfl,?_⟩) ?_;rotate_left
           · intro w hSw;(try dsimp only at hSw);go_simp<;>with_reducible rfl
           try simp only [Act.put,sT,List.set]
           refine wpAnyH_ready (rs:=[6]) (by kernel_rfl) (by simp) ?_;refine AllReadyH.cons rfl (fun K hK=>?_) AllReadyH.nil;go_simp
           (go_at_call 65;(with_reducible refine (KB.out _).mono ?_);rintro e w' ⟨rfl,rfl⟩)
           go_wp2_with fail;refine hK.out _ _ ?_ (fun hHeld=>?_)
           · exact HU.out.all HCV.out
           clear hK K
           try simp only [Act.put,sT,List.set]
           refine tk (i:=7) (v:=?_) 61 rfl (.inl ⟨by rfl,?_⟩) ?_;rotate_left
           · intro w hSw;(try dsimp only at hSw);go_simp<;>with_reducible rfl
           try simp only [Act.put,sT,List.set]
           refine tk (i:=8) (v:=?_) 62 rfl (.inl ⟨by rfl,?_⟩) ?_;rotate_left
           · intro w hSw;(try dsimp only at hSw);go_simp<;>with_reducible rfl
           try simp only [Act.put,sT,List.set]
           refine tk (i:=9) (v:=?_) 63 rfl (.inl ⟨by rfl,?_⟩) ?_;rotate_left
           · intro w hSw;(try dsimp only at hSw);go_simp<;>with_reducible rfl
           try simp only [Act.put,sT,List.set]
           refine tk (i:=11) (v:=?_) 65 rfl (.inl ⟨by rfl,?_⟩) ?_;rotate_left
           · intro w hSw;(try dsimp only at hSw);go_simp<;>with_reducible rfl
           try simp only [Act.put,sT,List.set]
           refine tk (i:=12) (v:=?_) 66 rfl (.inl ⟨by rfl,?_⟩) ?_;rotate_left
           · intro w hSw;(try dsimp only at hSw);go_simp<;>with_reducible rfl
           try simp only [Act.put,sT,List.set]
           refine wpAnyH_ready (rs:=[10]) (by kernel_rfl) (by simp) ?_;refine AllReadyH.cons rfl (fun K hK=>?_) AllReadyH.nil;go_simp
           (go_at_call 67;(with_reducible refine (r01_OfL 8 8 _ rfl (by decide)).mono ?_);rintro e w5 ⟨rfl,hb5⟩;have HU5:Hid (BoxG2 w cs g6 wm wo w5):=(by first|exact Lib.hid (HU.out.next hb5)|exact Lib.hid ((HU.out.next (Below.refl _ _).drew).next hb5));have HR5:Hid (RfAt w cs g5 g6 mm mo wm wo w5):=(by first|exact Lib.hid (HR0.out.next hb5)|exact Lib.hid ((HR0.out.next (Below.refl _ _).drew).next hb5));clear hb5)
           go_wp2_with fail;refine hK.out _ _ ?_ (fun hHeld=>?_)
           · exact HU5.out.all HCV.out
           clear hK K
           try simp only [Act.put,sT,List.set]
           refine wpAnyH_ready (rs:=[13]) (by kernel_rfl) (by simp) ?_;refine AllReadyH.cons rfl (fun K hK=>?_) AllReadyH.nil;go_simp
           (go_at_call 66;(with_reducible refine (KL.out _).mono ?_);rintro e w6 ⟨rfl,hb6⟩;have HU6:Hid (BoxG2 w cs g6 wm wo w6):=(by first|exact Lib.hid (HU5.out.next hb6)|exact Lib.hid ((HU5.out.next (Below.refl _ _).drew).next hb6));have HR6:Hid (RfAt w cs g5 g6 mm mo wm wo w6):=(by first|exact Lib.hid (HR5.out.next hb6)|exact Lib.hid ((HR5.out.next (Below.refl _ _).drew).next hb6));clear hb6)
           go_wp2_with fail;refine hK.out _ _ ?_ (fun hHeld=>?_)
           · exact HU6.out.all HCV.out
           clear hK K
           try simp only [Act.put,sT,List.set]
           refine tk (i:=14) (v:=?_) 68 rfl (.inl ⟨by rfl,?_⟩) ?_;rotate_left
           · intro w hSw;(try dsimp only at hSw);go_simp<;>with_reducible rfl
           try simp only [Act.put,sT,List.set]
           refine tk (i:=15) (v:=?_) 69 rfl (.inl ⟨by rfl,?_⟩) ?_;rotate_left
           · intro w hSw;(try dsimp only at hSw);go_simp<;>with_reducible rfl
           try simp only [Act.put,sT,List.set]
           refine tk (i:=16) (v:=?_) 70 rfl (.inl ⟨by rfl,?_⟩) ?_;rotate_left
           · intro w hSw;(try dsimp only at hSw);go_simp<;>with_reducible rfl
           try simp only [Act.put,sT,List.set]
           refine tk (i:=17) (v:=undef) 71 rfl (.inr ⟨by rfl,rfl⟩) ?_
           try simp only [Act.put,sT,List.set]
           refine tk (i:=18) (v:=undef) 72 rfl (.inr ⟨by rfl,rfl⟩) ?_
           try simp only [Act.put,sT,List.set]
           refine tk (i:=19) (v:=undef) 73 rfl (.inr ⟨by rfl,rfl⟩) ?_
           try simp only [Act.put,sT,List.set]
           refine tk (i:=20) (v:=undef) 74 rfl (.inr ⟨by rfl,rfl⟩) ?_
           try simp only [Act.put,sT,List.set]
           refine tk (i:=21) (v:=undef) 75 rfl (.inr ⟨by rfl,rfl⟩) ?_
           try simp only [Act.put,sT,List.set]
           refine tk (i:=22) (v:=undef) 76 rfl (.inr ⟨by rfl,rfl⟩) ?_
           try simp only [Act.put,sT,List.set]
           refine tk (i:=23) (v:=?_) 77 rfl (.inl ⟨by rfl,?_⟩) ?_;rotate_left
           · intro w hSw;(try dsimp only at hSw);go_simp<;>with_reducible rfl
           try simp only [Act.put,sT,List.set]
           refine tk (i:=24) (v:=?_) 78 rfl (.inl ⟨by rfl,?_⟩) ?_;rotate_left
           · intro w hSw;(try dsimp only at hSw);go_simp<;>with_reducible rfl
           try simp only [Act.put,sT,List.set]
           refine tk (i:=25) (v:=undef) 79 rfl (.inr ⟨by rfl,rfl⟩) ?_
           try simp only [Act.put,sT,List.set]
           refine tk (i:=26) (v:=undef) 80 rfl (.inr ⟨by rfl,rfl⟩) ?_
           try simp only [Act.put,sT,List.set]
           refine tk (i:=27) (v:=undef) 81 rfl (.inr ⟨by rfl,rfl⟩) ?_
           try simp only [Act.put,sT,List.set]
           refine tk (i:=28) (v:=undef) 82 rfl (.inr ⟨by rfl,rfl⟩) ?_
           try simp only [Act.put,sT,List.set]
           refine tk (i:=29) (v:=undef) 83 rfl (.inr ⟨by rfl,rfl⟩) ?_
           try simp only [Act.put,sT,List.set]
           refine tk (i:=30) (v:=undef) 84 rfl (.inr ⟨by rfl,rfl⟩) ?_
           try simp only [Act.put,sT,List.set]
           refine tk (i:=31) (v:=?_) 85 rfl (.inl ⟨by rfl,?_⟩) ?_;rotate_left
           · intro w hSw;(try dsimp only at hSw);go_simp<;>with_reducible rfl
           try simp only [Act.put,sT,List.set]
           refine wpAnyH_done (by kernel_rfl) ?_ _;go_wp2_with fail;go_meet;exact ⟨by rw [HR.out],by first|exact HR6.out|exact HR6.out.next (Below.refl _ _).drew⟩
         · as_aux_lemma =>
           obtain ⟨h0,rfl,rfl,rfl⟩:=h;have HR:Hid (Bv=true):=Lib.hid (by rw [HBV.out,h0];rfl);have HR0:Hid (RfAt w cs g5 g6 mm mo wm wo wc):=HC3;rw [h0] at heo;clear h0;go_wp2_with fail;refine wp_region_held_drew (S:=(fun w'=>w'.cell? ⟨g6,0,none⟩=some (.string wm)∧w'.cell? ⟨g6,1,none⟩=some (.string wo)∧w'.cell? ⟨w.heap.size,8,none⟩=some (.string wg)∧w'.cell? ⟨w.heap.size,9,none⟩=some (.string wh))) (by kernel_rfl) ?_ (fun hHeld=>?_)
           · exact HU.out.all HCV.out
           refine tk (i:=0) (v:=?_) 54 rfl (.inl ⟨by rfl,?_⟩) ?_;rotate_left
           · intro w hSw;(try dsimp only at hSw);go_simp<;>with_reducible rfl
           try simp only [Act.put,sT,List.set]
           refine tk (i:=1) (v:=?_) 55 rfl (.inl ⟨by rfl,?_⟩) ?_;rotate_left
           · intro w hSw;(try dsimp only at hSw);go_simp<;>with_reducible rfl
           try simp only [Act.put,sT,List.set]
           refine tk (i:=2) (v:=?_) 56 rfl (.inl ⟨by rfl,?_⟩) ?_;rotate_left
           · intro w hSw;(try dsimp only at hSw);go_simp<;>with_reducible rfl
           try simp only [Act.put,sT,List.set]
           refine tk (i:=3) (v:=?_) 57 rfl (.inl ⟨by rfl,?_⟩) ?_;rotate_left
           · intro w hSw;(try dsimp only at hSw);go_simp<;>with_reducible rfl
           try simp only [Act.put,sT,List.set]
           refine tk (i:=4) (v:=?_) 58 rfl (.inl ⟨by rfl,?_⟩) ?_;rotate_left
           · intro w hSw;(try dsimp only at hSw);go_simp<;>with_reducible rfl
           try simp only [Act.put,sT,List.set]
           refine tk (i:=5) (v:=?_) 59 rfl (.inl ⟨by rfl,?_⟩) ?_;rotate_left
           · intro w hSw;(try dsimp only at hSw);go_simp<;>with_reducible rfl
           try simp only [Act.put,sT,List.set]
           refine wpAnyH_ready (rs:=[6]) (by kernel_rfl) (by simp) ?_;refine AllReadyH.cons rfl (fun K hK=>?_) AllReadyH.nil;go_simp
           (go_at_call 65;(with_reducible refine (KB.out _).mono ?_);rintro e w' ⟨rfl,rfl⟩)
           go_wp2_with fail;refine hK.out _ _ ?_ (fun hHeld=>?_)
           · exact HU.out.all HCV.out
           clear hK K
           try simp only [Act.put,sT,List.set]
           refine tk (i:=7) (v:=?_) 61 rfl (.inl ⟨by rfl,?_⟩) ?_;rotate_left
           · intro w hSw;(try dsimp only at hSw);go_simp<;>with_reducible rfl
           try simp only [Act.put,sT,List.set]
           refine tk (i:=8) (v:=?_) 62 rfl (.inl ⟨by rfl,?_⟩) ?_;rotate_left
           · intro w hSw;(try dsimp only at hSw);go_simp<;>with_reducible rfl
           try simp only [Act.put,sT,List.set]
           refine tk (i:=9) (v:=?_) 63 rfl (.inl ⟨by rfl,?_⟩) ?_;rotate_left
           · intro w hSw;(try dsimp only at hSw);go_simp<;>with_reducible rfl
           try simp only [Act.put,sT,List.set]
           refine tk (i:=11) (v:=?_) 65 rfl (.inl ⟨by rfl,?_⟩) ?_;rotate_left
           · intro w hSw;(try dsimp only at hSw);go_simp<;>with_reducible rfl
           try simp only [Act.put,sT,List.set]
           refine tk (i:=12) (v:=?_) 66 rfl (.inl ⟨by rfl,?_⟩) ?_;rotate_left
           · intro w hSw;(try dsimp only at hSw);go_simp<;>with_reducible rfl
           try simp only [Act.put,sT,List.set]
           refine wpAnyH_ready (rs:=[10]) (by kernel_rfl) (by simp) ?_;refine AllReadyH.cons rfl (fun K hK=>?_) AllReadyH.nil;go_simp
           (go_at_call 67;(with_reducible refine (r01_OfL 8 8 _ rfl (by decide)).mono ?_);rintro e w5 ⟨rfl,hb5⟩;have HU5:Hid (BoxG2 w cs g6 wm wo w5):=(by first|exact Lib.hid (HU.out.next hb5)|exact Lib.hid ((HU.out.next (Below.refl _ _).drew).next hb5));have HR5:Hid (RfAt w cs g5 g6 mm mo wm wo w5):=(by first|exact Lib.hid (HR0.out.next hb5)|exact Lib.hid ((HR0.out.next (Below.refl _ _).drew).next hb5));clear hb5)
           go_wp2_with fail;refine hK.out _ _ ?_ (fun hHeld=>?_)
           · exact HU5.out.all HCV.out
           clear hK K
           try simp only [Act.put,sT,List.set]
           refine wpAnyH_ready (rs:=[13]) (by kernel_rfl) (by simp) ?_;refine AllReadyH.cons rfl (fun K hK=>?_) AllReadyH.nil;go_simp
           (go_at_call 66;(with_reducible refine (KL.out _).mono ?_);rintro e w6 ⟨rfl,hb6⟩;have HU6:Hid (BoxG2 w cs g6 wm wo w6):=(by first|exact Lib.hid (HU5.out.next hb6)|exact Lib.hid ((HU5.out.next (Below.refl _ _).drew).next hb6));have HR6:Hid (RfAt w cs g5 g6 mm mo wm wo w6):=(by first|exact Lib.hid (HR5.out.next hb6)|exact Lib.hid ((HR5.out.next (Below.refl _ _).drew).next hb6));clear hb6)
           go_wp2_with fail;refine hK.out _ _ ?_ (fun hHeld=>?_)
           · exact HU6.out.all HCV.out
           clear hK K
           try simp only [Act.put,sT,List.set]
           refine tk (i:=14) (v:=?_) 68 rfl (.inl ⟨by rfl,?_⟩) ?_;rotate_left
           · intro w hSw;(try dsimp only at hSw);go_simp<;>with_reducible rfl
           try simp only [Act.put,sT,List.set]
           refine tk (i:=15) (v:=?_) 69 rfl (.inl ⟨by rfl,?_⟩) ?_;rotate_left
           · intro w hSw;(try dsimp only at hSw);go_simp<;>with_reducible rfl
           try simp only [Act.put,sT,List.set]
           refine tk (i:=16) (v:=?_) 70 rfl (.inl ⟨by rfl,?_⟩) ?_;rotate_left
           · intro w hSw;(try dsimp only at hSw);go_simp<;>with_reducible rfl
           try simp only [Act.put,sT,List.set]
           refine tk (i:=17) (v:=?_) 71 rfl (.inl ⟨by rfl,?_⟩) ?_;rotate_left
           · intro w hSw;(try dsimp only at hSw);go_simp<;>with_reducible rfl
           try simp only [Act.put,sT,List.set]
           refine tk (i:=18) (v:=?_) 72 rfl (.inl ⟨by rfl,?_⟩) ?_;rotate_left
           · intro w hSw;(try dsimp only at hSw);go_simp<;>with_reducible rfl
           try simp only [Act.put,sT,List.set]
           refine tk (i:=19) (v:=?_) 73 rfl (.inl ⟨by rfl,?_⟩) ?_;rotate_left
           · intro w hSw;(try dsimp only at hSw);go_simp<;>with_reducible rfl
           try simp only [Act.put,sT,List.set]
           refine tk (i:=20) (v:=?_) 74 rfl (.inl ⟨by rfl,?_⟩) ?_;rotate_left
           · intro w hSw;(try dsimp only at hSw);go_simp<;>with_reducible rfl
           try simp only [Act.put,sT,List.set]
           refine wpAnyH_ready (rs:=[21]) (by kernel_rfl) (by simp) ?_;refine AllReadyH.cons rfl (fun K hK=>?_) AllReadyH.nil;go_simp
           (go_at_call 68;(with_reducible refine (KU1.out _).mono ?_);rintro e w7 ⟨rfl,hb7⟩;have HU7:Hid (BoxG2 w cs g6 wm wo w7):=(by first|exact Lib.hid (HU6.out.next hb7)|exact Lib.hid ((HU6.out.next (Below.refl _ _).drew).next hb7));have HR7:Hid (RfAt w cs g5 g6 mm mo wm wo w7):=(by first|exact Lib.hid (HR6.out.next hb7)|exact Lib.hid ((HR6.out.next (Below.refl _ _).drew).next hb7));clear hb7)
           go_wp2_with fail;refine hK.out _ _ ?_ (fun hHeld=>?_)
           · exact HU7.out.all HCV.out
           clear hK K
           try simp only [Act.put,sT,List.set]
           refine tk (i:=22) (v:=?_) 76 rfl (.inl ⟨by rfl,?_⟩) ?_;rotate_left
           · intro w hSw;(try dsimp only at hSw);go_simp<;>with_reducible rfl
           try simp only [Act.put,sT,List.set]
           refine tk (i:=23) (v:=?_) 77 rfl (.inl ⟨by rfl,?_⟩) ?_;rotate_left
           · intro w hSw;(try dsimp only at hSw);go_simp<;>with_reducible rfl
           try simp only [Act.put,sT,List.set]
           refine tk (i:=24) (v:=?_) 78 rfl (.inl ⟨by rfl,?_⟩) ?_;rotate_left
           · intro w hSw;(try dsimp only at hSw);go_simp<;>with_reducible rfl
           try simp only [Act.put,sT,List.set]
           refine tk (i:=25) (v:=undef) 79 rfl (.inr ⟨by rfl,rfl⟩) ?_
           try simp only [Act.put,sT,List.set]
           refine tk (i:=26) (v:=undef) 80 rfl (.inr ⟨by rfl,rfl⟩) ?_
           try simp only [Act.put,sT,List.set]
           refine tk (i:=27) (v:=undef) 81 rfl (.inr ⟨by rfl,rfl⟩) ?_
           try simp only [Act.put,sT,List.set]
           refine tk (i:=28) (v:=undef) 82 rfl (.inr ⟨by rfl,rfl⟩) ?_
           try simp only [Act.put,sT,List.set]
           refine tk (i:=29) (v:=undef) 83 rfl (.inr ⟨by rfl,rfl⟩) ?_
           try simp only [Act.put,sT,List.set]
           refine tk (i:=30) (v:=undef) 84 rfl (.inr ⟨by rfl,rfl⟩) ?_
           try simp only [Act.put,sT,List.set]
           refine tk (i:=31) (v:=?_) 85 rfl (.inl ⟨by rfl,?_⟩) ?_;rotate_left
           · intro w hSw;(try dsimp only at hSw);go_simp<;>with_reducible rfl
           try simp only [Act.put,sT,List.set]
           refine wpAnyH_done (by kernel_rfl) ?_ _;go_wp2_with fail;go_meet;exact ⟨by rw [HR.out],by first|exact HR7.out|exact HR7.out.next (Below.refl _ _).drew⟩
         · as_aux_lemma =>
           obtain ⟨h0,rfl,rfl,rfl,rfl⟩:=h;have HR:Hid (Bv=true):=Lib.hid (by rw [HBV.out,h0];rfl);have HR0:Hid (RfAt w cs g5 g6 mm mo wm wo wc):=HC3;rw [h0] at heo;clear h0;go_wp2_with fail;refine wp_region_held_drew (S:=(fun w'=>w'.cell? ⟨g6,0,none⟩=some (.string wm)∧w'.cell? ⟨g6,1,none⟩=some (.string wo)∧w'.cell? ⟨w.heap.size,8,none⟩=some (.string wg)∧w'.cell? ⟨w.heap.size,9,none⟩=some (.string wh))) (by kernel_rfl) ?_ (fun hHeld=>?_)
           · exact HU.out.all HCV.out
           refine tk (i:=0) (v:=?_) 54 rfl (.inl ⟨by rfl,?_⟩) ?_;rotate_left
           · intro w hSw;(try dsimp only at hSw);go_simp<;>with_reducible rfl
           try simp only [Act.put,sT,List.set]
           refine tk (i:=1) (v:=?_) 55 rfl (.inl ⟨by rfl,?_⟩) ?_;rotate_left
           · intro w hSw;(try dsimp only at hSw);go_simp<;>with_reducible rfl
           try simp only [Act.put,sT,List.set]
           refine tk (i:=2) (v:=?_) 56 rfl (.inl ⟨by rfl,?_⟩) ?_;rotate_left
           · intro w hSw;(try dsimp only at hSw);go_simp<;>with_reducible rfl
           try simp only [Act.put,sT,List.set]
           refine tk (i:=3) (v:=?_) 57 rfl (.inl ⟨by rfl,?_⟩) ?_;rotate_left
           · intro w hSw;(try dsimp only at hSw);go_simp<;>with_reducible rfl
           try simp only [Act.put,sT,List.set]
           refine tk (i:=4) (v:=?_) 58 rfl (.inl ⟨by rfl,?_⟩) ?_;rotate_left
           · intro w hSw;(try dsimp only at hSw);go_simp<;>with_reducible rfl
           try simp only [Act.put,sT,List.set]
           refine tk (i:=5) (v:=?_) 59 rfl (.inl ⟨by rfl,?_⟩) ?_;rotate_left
           · intro w hSw;(try dsimp only at hSw);go_simp<;>with_reducible rfl
           try simp only [Act.put,sT,List.set]
           refine wpAnyH_ready (rs:=[6]) (by kernel_rfl) (by simp) ?_;refine AllReadyH.cons rfl (fun K hK=>?_) AllReadyH.nil;go_simp
           (go_at_call 65;(with_reducible refine (KB.out _).mono ?_);rintro e w' ⟨rfl,rfl⟩)
           go_wp2_with fail;refine hK.out _ _ ?_ (fun hHeld=>?_)
           · exact HU.out.all HCV.out
           clear hK K
           try simp only [Act.put,sT,List.set]
           refine tk (i:=7) (v:=?_) 61 rfl (.inl ⟨by rfl,?_⟩) ?_;rotate_left
           · intro w hSw;(try dsimp only at hSw);go_simp<;>with_reducible rfl
           try simp only [Act.put,sT,List.set]
           refine tk (i:=8) (v:=?_) 62 rfl (.inl ⟨by rfl,?_⟩) ?_;rotate_left
           · intro w hSw;(try dsimp only at hSw);go_simp<;>with_reducible rfl
           try simp only [Act.put,sT,List.set]
           refine tk (i:=9) (v:=?_) 63 rfl (.inl ⟨by rfl,?_⟩) ?_;rotate_left
           · intro w hSw;(try dsimp only at hSw);go_simp<;>with_reducible rfl
           try simp only [Act.put,sT,List.set]
           refine tk (i:=11) (v:=?_) 65 rfl (.inl ⟨by rfl,?_⟩) ?_;rotate_left
           · intro w hSw;(try dsimp only at hSw);go_simp<;>with_reducible rfl
           try simp only [Act.put,sT,List.set]
           refine tk (i:=12) (v:=?_) 66 rfl (.inl ⟨by rfl,?_⟩) ?_;rotate_left
           · intro w hSw;(try dsimp only at hSw);go_simp<;>with_reducible rfl
           try simp only [Act.put,sT,List.set]
           refine wpAnyH_ready (rs:=[10]) (by kernel_rfl) (by simp) ?_;refine AllReadyH.cons rfl (fun K hK=>?_) AllReadyH.nil;go_simp
           (go_at_call 67;(with_reducible refine (r01_OfL 8 8 _ rfl (by decide)).mono ?_);rintro e w5 ⟨rfl,hb5⟩;have HU5:Hid (BoxG2 w cs g6 wm wo w5):=(by first|exact Lib.hid (HU.out.next hb5)|exact Lib.hid ((HU.out.next (Below.refl _ _).drew).next hb5));have HR5:Hid (RfAt w cs g5 g6 mm mo wm wo w5):=(by first|exact Lib.hid (HR0.out.next hb5)|exact Lib.hid ((HR0.out.next (Below.refl _ _).drew).next hb5));clear hb5)
           go_wp2_with fail;refine hK.out _ _ ?_ (fun hHeld=>?_)
           · exact HU5.out.all HCV.out
           clear hK K
           try simp only [Act.put,sT,List.set]
           refine wpAnyH_ready (rs:=[13]) (by kernel_rfl) (by simp) ?_;refine AllReadyH.cons rfl (fun K hK=>?_) AllReadyH.nil;go_simp
           (go_at_call 66;(with_reducible refine (KL.out _).mono ?_);rintro e w6 ⟨rfl,hb6⟩;have HU6:Hid (BoxG2 w cs g6 wm wo w6):=(by first|exact Lib.hid (HU5.out.next hb6)|exact Lib.hid ((HU5.out.next (Below.refl _ _).drew).next hb6));have HR6:Hid (RfAt w cs g5 g6 mm mo wm wo w6):=(by first|exact Lib.hid (HR5.out.next hb6)|exact Lib.hid ((HR5.out.next (Below.refl _ _).drew).next hb6));clear hb6)
           go_wp2_with fail;refine hK.out _ _ ?_ (fun hHeld=>?_)
           · exact HU6.out.all HCV.out
           clear hK K
           try simp only [Act.put,sT,List.set]
           refine tk (i:=14) (v:=?_) 68 rfl (.inl ⟨by rfl,?_⟩) ?_;rotate_left
           · intro w hSw;(try dsimp only at hSw);go_simp<;>with_reducible rfl
           try simp only [Act.put,sT,List.set]
           refine tk (i:=15) (v:=?_) 69 rfl (.inl ⟨by rfl,?_⟩) ?_;rotate_left
           · intro w hSw;(try dsimp only at hSw);go_simp<;>with_reducible rfl
           try simp only [Act.put,sT,List.set]
           refine tk (i:=16) (v:=?_) 70 rfl (.inl ⟨by rfl,?_⟩) ?_;rotate_left
           · intro w hSw;(try dsimp only at hSw);go_simp<;>with_reducible rfl
           try simp only [Act.put,sT,List.set]
           refine tk (i:=17) (v:=?_) 71 rfl (.inl ⟨by rfl,?_⟩) ?_;rotate_left
           · intro w hSw;(try dsimp only at hSw);go_simp<;>with_reducible rfl
           try simp only [Act.put,sT,List.set]
           refine tk (i:=18) (v:=?_) 72 rfl (.inl ⟨by rfl,?_⟩) ?_;rotate_left
           · intro w hSw;(try dsimp only at hSw);go_simp<;>with_reducible rfl
           try simp only [Act.put,sT,List.set]
           refine tk (i:=19) (v:=?_) 73 rfl (.inl ⟨by rfl,?_⟩) ?_;rotate_left
           · intro w hSw;(try dsimp only at hSw);go_simp<;>with_reducible rfl
           try simp only [Act.put,sT,List.set]
           refine tk (i:=20) (v:=?_) 74 rfl (.inl ⟨by rfl,?_⟩) ?_;rotate_left
           · intro w hSw;(try dsimp only at hSw);go_simp<;>with_reducible rfl
           try simp only [Act.put,sT,List.set]
           refine wpAnyH_ready (rs:=[21]) (by kernel_rfl) (by simp) ?_;refine AllReadyH.cons rfl (fun K hK=>?_) AllReadyH.nil;go_simp
           (go_at_call 68;(with_reducible refine (KU1.out _).mono ?_);rintro e w7 ⟨rfl,hb7⟩;have HU7:Hid (BoxG2 w cs g6 wm wo w7):=(by first|exact Lib.hid (HU6.out.next hb7)|exact Lib.hid ((HU6.out.next (Below.refl _ _).drew).next hb7));have HR7:Hid (RfAt w cs g5 g6 mm mo wm wo w7):=(by first|exact Lib.hid (HR6.out.next hb7)|exact Lib.hid ((HR6.out.next (Below.refl _ _).drew).next hb7));clear hb7)
           go_wp2_with fail;refine hK.out _ _ ?_ (fun hHeld=>?_)
           · exact HU7.out.all HCV.out
           clear hK K
           try simp only [Act.put,sT,List.set]
           refine tk (i:=22) (v:=?_) 76 rfl (.inl ⟨by rfl,?_⟩) ?_;rotate_left
           · intro w hSw;(try dsimp only at hSw);go_simp<;>with_reducible rfl
           try simp only [Act.put,sT,List.set]
           refine tk (i:=23) (v:=?_) 77 rfl (.inl ⟨by rfl,?_⟩) ?_;rotate_left
           · intro w hSw;(try dsimp only at hSw);go_simp<;>with_reducible rfl
           try simp only [Act.put,sT,List.set]
           refine tk (i:=24) (v:=?_) 78 rfl (.inl ⟨by rfl,?_⟩) ?_;rotate_left
           · intro w hSw;(try dsimp only at hSw);go_simp<;>with_reducible rfl
           try simp only [Act.put,sT,List.set]
           refine tk (i:=25) (v:=?_) 79 rfl (.inl ⟨by rfl,?_⟩) ?_;rotate_left
           · intro w hSw;(try dsimp only at hSw);go_simp<;>with_reducible rfl
           try simp only [Act.put,sT,List.set]
           refine tk (i:=26) (v:=?_) 80 rfl (.inl ⟨by rfl,?_⟩) ?_;rotate_left
           · intro w hSw;(try dsimp only at hSw);go_simp<;>with_reducible rfl
           try simp only [Act.put,sT,List.set]
           refine tk (i:=27) (v:=?_) 81 rfl (.inl ⟨by rfl,?_⟩) ?_;rotate_left
           · intro w hSw;(try dsimp only at hSw);go_simp<;>with_reducible rfl
           try simp only [Act.put,sT,List.set]
           refine tk (i:=28) (v:=?_) 82 rfl (.inl ⟨by rfl,?_⟩) ?_;rotate_left
           · intro w hSw;(try dsimp only at hSw);go_simp<;>with_reducible rfl
           try simp only [Act.put,sT,List.set]
           refine wpAnyH_ready (rs:=[29]) (by kernel_rfl) (by simp) ?_;refine AllReadyH.cons rfl (fun K hK=>?_) AllReadyH.nil;go_simp
           (go_at_call 68;(with_reducible refine (KU2.out _).mono ?_);rintro e w8 ⟨rfl,hb8⟩;have HU8:Hid (BoxG2 w cs g6 wm wo w8):=(by first|exact Lib.hid (HU7.out.next hb8)|exact Lib.hid ((HU7.out.next (Below.refl _ _).drew).next hb8));have HR8:Hid (RfAt w cs g5 g6 mm mo wm wo w8):=(by first|exact Lib.hid (HR7.out.next hb8)|exact Lib.hid ((HR7.out.next (Below.refl _ _).drew).next hb8));clear hb8)
           go_wp2_with fail;refine hK.out _ _ ?_ (fun hHeld=>?_)
           · exact HU8.out.all HCV.out
           clear hK K
           try simp only [Act.put,sT,List.set]
           refine tk (i:=30) (v:=?_) 84 rfl (.inl ⟨by rfl,?_⟩) ?_;rotate_left
           · intro w hSw;(try dsimp only at hSw);go_simp<;>with_reducible rfl
           try simp only [Act.put,sT,List.set]
           refine tk (i:=31) (v:=?_) 85 rfl (.inl ⟨by rfl,?_⟩) ?_;rotate_left
           · intro w hSw;(try dsimp only at hSw);go_simp<;>with_reducible rfl
           try simp only [Act.put,sT,List.set]
           refine wpAnyH_done (by kernel_rfl) ?_ _;go_wp2_with fail;go_meet;exact ⟨by rw [HR.out],by first|exact HR8.out|exact HR8.out.next (Below.refl _ _).drew⟩
         · as_aux_lemma =>
           obtain ⟨h0,rfl,rfl,rfl,rfl⟩:=h;have HR:Hid (Bv=false):=Lib.hid (by rw [HBV.out,h0];rfl);have HR0:Hid (RfAt w cs g5 g6 mm mo wm wo wc):=HC3;rw [h0] at heo;clear h0;go_wp2_with fail;refine wp_region_held_drew (S:=(fun w'=>w'.cell? ⟨g6,0,none⟩=some (.string wm)∧w'.cell? ⟨g6,1,none⟩=some (.string wo)∧w'.cell? ⟨w.heap.size,8,none⟩=some (.string wg)∧w'.cell? ⟨w.heap.size,9,none⟩=some (.string wh))) (by kernel_rfl) ?_ (fun hHeld=>?_)
           · exact HU.out.all HCV.out
           refine tk (i:=0) (v:=?_) 54 rfl (.inl ⟨by rfl,?_⟩) ?_;rotate_left
           · intro w hSw;(try dsimp only at hSw);go_simp<;>with_reducible rfl
           try simp only [Act.put,sT,List.set]
           refine tk (i:=1) (v:=?_) 55 rfl (.inl ⟨by rfl,?_⟩) ?_;rotate_left
           · intro w hSw;(try dsimp only at hSw);go_simp<;>with_reducible rfl
           try simp only [Act.put,sT,List.set]
           refine tk (i:=2) (v:=?_) 56 rfl (.inl ⟨by rfl,?_⟩) ?_;rotate_left
           · intro w hSw;(try dsimp only at hSw);go_simp<;>with_reducible rfl
           try simp only [Act.put,sT,List.set]
           refine tk (i:=3) (v:=?_) 57 rfl (.inl ⟨by rfl,?_⟩) ?_;rotate_left
           · intro w hSw;(try dsimp only at hSw);go_simp<;>with_reducible rfl
           try simp only [Act.put,sT,List.set]
           refine tk (i:=4) (v:=?_) 58 rfl (.inl ⟨by rfl,?_⟩) ?_;rotate_left
           · intro w hSw;(try dsimp only at hSw);go_simp<;>with_reducible rfl
           try simp only [Act.put,sT,List.set]
           refine tk (i:=5) (v:=?_) 59 rfl (.inl ⟨by rfl,?_⟩) ?_;rotate_left
           · intro w hSw;(try dsimp only at hSw);go_simp<;>with_reducible rfl
           try simp only [Act.put,sT,List.set]
           refine wpAnyH_ready (rs:=[6]) (by kernel_rfl) (by simp) ?_;refine AllReadyH.cons rfl (fun K hK=>?_) AllReadyH.nil;go_simp
           (go_at_call 65;(with_reducible refine (KB.out _).mono ?_);rintro e w' ⟨rfl,rfl⟩)
           go_wp2_with fail;refine hK.out _ _ ?_ (fun hHeld=>?_)
           · exact HU.out.all HCV.out
           clear hK K
           try simp only [Act.put,sT,List.set]
           refine tk (i:=7) (v:=?_) 61 rfl (.inl ⟨by rfl,?_⟩) ?_;rotate_left
           · intro w hSw;(try dsimp only at hSw);go_simp<;>with_reducible rfl
           try simp only [Act.put,sT,List.set]
           refine tk (i:=8) (v:=?_) 62 rfl (.inl ⟨by rfl,?_⟩) ?_;rotate_left
           · intro w hSw;(try dsimp only at hSw);go_simp<;>with_reducible rfl
           try simp only [Act.put,sT,List.set]
           refine tk (i:=9) (v:=?_) 63 rfl (.inl ⟨by rfl,?_⟩) ?_;rotate_left
           · intro w hSw;(try dsimp only at hSw);go_simp<;>with_reducible rfl
           try simp only [Act.put,sT,List.set]
           refine tk (i:=11) (v:=?_) 65 rfl (.inl ⟨by rfl,?_⟩) ?_;rotate_left
           · intro w hSw;(try dsimp only at hSw);go_simp<;>with_reducible rfl
           try simp only [Act.put,sT,List.set]
           refine tk (i:=12) (v:=?_) 66 rfl (.inl ⟨by rfl,?_⟩) ?_;rotate_left
           · intro w hSw;(try dsimp only at hSw);go_simp<;>with_reducible rfl
           try simp only [Act.put,sT,List.set]
           refine wpAnyH_ready (rs:=[10]) (by kernel_rfl) (by simp) ?_;refine AllReadyH.cons rfl (fun K hK=>?_) AllReadyH.nil;go_simp
           (go_at_call 67;(with_reducible refine (r01_OfL 8 8 _ rfl (by decide)).mono ?_);rintro e w5 ⟨rfl,hb5⟩;have HU5:Hid (BoxG2 w cs g6 wm wo w5):=(by first|exact Lib.hid (HU.out.next hb5)|exact Lib.hid ((HU.out.next (Below.refl _ _).drew).next hb5));have HR5:Hid (RfAt w cs g5 g6 mm mo wm wo w5):=(by first|exact Lib.hid (HR0.out.next hb5)|exact Lib.hid ((HR0.out.next (Below.refl _ _).drew).next hb5));clear hb5)
           go_wp2_with fail;refine hK.out _ _ ?_ (fun hHeld=>?_)
           · exact HU5.out.all HCV.out
           clear hK K
           try simp only [Act.put,sT,List.set]
           refine wpAnyH_ready (rs:=[13]) (by kernel_rfl) (by simp) ?_;refine AllReadyH.cons rfl (fun K hK=>?_) AllReadyH.nil;go_simp
           (go_at_call 66;(with_reducible refine (KL.out _).mono ?_);rintro e w6 ⟨rfl,hb6⟩;have HU6:Hid (BoxG2 w cs g6 wm wo w6):=(by first|exact Lib.hid (HU5.out.next hb6)|exact Lib.hid ((HU5.out.next (Below.refl _ _).drew).next hb6));have HR6:Hid (RfAt w cs g5 g6 mm mo wm wo w6):=(by first|exact Lib.hid (HR5.out.next hb6)|exact Lib.hid ((HR5.out.next (Below.refl _ _).drew).next hb6));clear hb6)
           go_wp2_with fail;refine hK.out _ _ ?_ (fun hHeld=>?_)
           · exact HU6.out.all HCV.out
           clear hK K
           try simp only [Act.put,sT,List.set]
           refine tk (i:=14) (v:=?_) 68 rfl (.inl ⟨by rfl,?_⟩) ?_;rotate_left
           · intro w hSw;(try dsimp only at hSw);go_simp<;>with_reducible rfl
           try simp only [Act.put,sT,List.set]
           refine tk (i:=15) (v:=?_) 69 rfl (.inl ⟨by rfl,?_⟩) ?_;rotate_left
           · intro w hSw;(try dsimp only at hSw);go_simp<;>with_reducible rfl
           try simp only [Act.put,sT,List.set]
           refine tk (i:=16) (v:=?_) 70 rfl (.inl ⟨by rfl,?_⟩) ?_;rotate_left
           · intro w hSw;(try dsimp only at hSw);go_simp<;>with_reducible rfl
           try simp only [Act.put,sT,List.set]
           refine tk (i:=17) (v:=?_) 71 rfl (.inl ⟨by rfl,?_⟩) ?_;rotate_left
           · intro w hSw;(try dsimp only at hSw);go_simp<;>with_reducible rfl
           try simp only [Act.put,sT,List.set]
           refine tk (i:=18) (v:=?_) 72 rfl (.inl ⟨by rfl,?_⟩) ?_;rotate_left
           · intro w hSw;(try dsimp only at hSw);go_simp<;>with_reducible rfl
           try simp only [Act.put,sT,List.set]
           refine tk (i:=19) (v:=?_) 73 rfl (.inl ⟨by rfl,?_⟩) ?_;rotate_left
           · intro w hSw;(try dsimp only at hSw);go_simp<;>with_reducible rfl
           try simp only [Act.put,sT,List.set]
           refine tk (i:=20) (v:=?_) 74 rfl (.inl ⟨by rfl,?_⟩) ?_;rotate_left
           · intro w hSw;(try dsimp only at hSw);go_simp<;>with_reducible rfl
           try simp only [Act.put,sT,List.set]
           refine wpAnyH_ready (rs:=[21]) (by kernel_rfl) (by simp) ?_;refine AllReadyH.cons rfl (fun K hK=>?_) AllReadyH.nil;go_simp
           (go_at_call 68;(with_reducible refine (KU1.out _).mono ?_);rintro e w7 ⟨rfl,hb7⟩;have HU7:Hid (BoxG2 w cs g6 wm wo w7):=(by first|exact Lib.hid (HU6.out.next hb7)|exact Lib.hid ((HU6.out.next (Below.refl _ _).drew).next hb7));have HR7:Hid (RfAt w cs g5 g6 mm mo wm wo w7):=(by first|exact Lib.hid (HR6.out.next hb7)|exact Lib.hid ((HR6.out.next (Below.refl _ _).drew).next hb7));clear hb7)
           go_wp2_with fail;refine hK.out _ _ ?_ (fun hHeld=>?_)
           · exact HU7.out.all HCV.out
           clear hK K
           try simp only [Act.put,sT,List.set]
           refine tk (i:=22) (v:=?_) 76 rfl (.inl ⟨by rfl,?_⟩) ?_;rotate_left
           · intro w hSw;(try dsimp only at hSw);go_simp<;>with_reducible rfl
           try simp only [Act.put,sT,List.set]
           refine tk (i:=23) (v:=?_) 77 rfl (.inl ⟨by rfl,?_⟩) ?_;rotate_left
           · intro w hSw;(try dsimp only at hSw);go_simp<;>with_reducible rfl
           try simp only [Act.put,sT,List.set]
           refine tk (i:=24) (v:=?_) 78 rfl (.inl ⟨by rfl,?_⟩) ?_;rotate_left
           · intro w hSw;(try dsimp only at hSw);go_simp<;>with_reducible rfl
           try simp only [Act.put,sT,List.set]
           refine tk (i:=25) (v:=?_) 79 rfl (.inl ⟨by rfl,?_⟩) ?_;rotate_left
           · intro w hSw;(try dsimp only at hSw);go_simp<;>with_reducible rfl
           try simp only [Act.put,sT,List.set]
           refine tk (i:=26) (v:=?_) 80 rfl (.inl ⟨by rfl,?_⟩) ?_;rotate_left
           · intro w hSw;(try dsimp only at hSw);go_simp<;>with_reducible rfl
           try simp only [Act.put,sT,List.set]
           refine tk (i:=27) (v:=?_) 81 rfl (.inl ⟨by rfl,?_⟩) ?_;rotate_left
           · intro w hSw;(try dsimp only at hSw);go_simp<;>with_reducible rfl
           try simp only [Act.put,sT,List.set]
           refine tk (i:=28) (v:=?_) 82 rfl (.inl ⟨by rfl,?_⟩) ?_;rotate_left
           · intro w hSw;(try dsimp only at hSw);go_simp<;>with_reducible rfl
           try simp only [Act.put,sT,List.set]
           refine wpAnyH_ready (rs:=[29]) (by kernel_rfl) (by simp) ?_;refine AllReadyH.cons rfl (fun K hK=>?_) AllReadyH.nil;go_simp
           (go_at_call 68;(with_reducible refine (KU2.out _).mono ?_);rintro e w8 ⟨rfl,hb8⟩;have HU8:Hid (BoxG2 w cs g6 wm wo w8):=(by first|exact Lib.hid (HU7.out.next hb8)|exact Lib.hid ((HU7.out.next (Below.refl _ _).drew).next hb8));have HR8:Hid (RfAt w cs g5 g6 mm mo wm wo w8):=(by first|exact Lib.hid (HR7.out.next hb8)|exact Lib.hid ((HR7.out.next (Below.refl _ _).drew).next hb8));clear hb8)
           go_wp2_with fail;refine hK.out _ _ ?_ (fun hHeld=>?_)
           · exact HU8.out.all HCV.out
           clear hK K
           try simp only [Act.put,sT,List.set]
           refine tk (i:=30) (v:=?_) 84 rfl (.inl ⟨by rfl,?_⟩) ?_;rotate_left
           · intro w hSw;(try dsimp only at hSw);go_simp<;>with_reducible rfl
           try simp only [Act.put,sT,List.set]
           refine tk (i:=31) (v:=?_) 85 rfl (.inl ⟨by rfl,?_⟩) ?_;rotate_left
           · intro w hSw;(try dsimp only at hSw);go_simp<;>with_reducible rfl
           try simp only [Act.put,sT,List.set]
           refine wpAnyH_done (by kernel_rfl) ?_ _;go_wp2_with fail;go_meet;exact ⟨by rw [HR.out],by first|exact HR8.out|exact HR8.out.next (Below.refl _ _).drew⟩
        case rest =>
         obtain ⟨rfl,hr⟩:=hcut;have HC5:=Lib.hid hr;clear hr HU HC3 KB KL KU1 KU2 HBV HCV
         cases hBv:Bv
         · have HGR:Hid (groupP mm mo mg mh wm wo wg wh=true):=Lib.hid (by rw [HBv.out,hBv];rfl)
           clear hBv HBv;have HC6:Hid (∀ {wx wy:World},RfAt w cs g5 g6 mm mo wm wo wx→Below wx.heap.size wx wy→RfAt w cs g5 g6 mm mo wm wo wy):=Lib.hid (fun h hb=>h.next hb);have hvch:valid ch=true:=all_at HF.out (k:=0) (by simp);have hvsl:valid sl=true:=all_at HF.out (k:=1) (by simp);have hvse:valid se=true:=all_at HF.out (k:=2) (by simp);have hvat:valid at_=true:=all_at HF.out (k:=3) (by simp);have hvha:valid ha=true:=all_at HF.out (k:=4) (by simp);have hvel:valid el=true:=all_at HF.out (k:=5) (by simp);have hves:valid es=true:=all_at HF.out (k:=6) (by simp);have hvbl:valid bl=true:=all_at HF.out (k:=7) (by simp);have hvma:valid ma=true:=all_at HF.out (k:=8) (by simp);have hvmo:valid mo=true:=all_at HF.out (k:=10) (by simp);have ha8:=natSmall_bound _ HZ4.out;have hl8:8*num at_<lim:=Nat.lt_trans (show 8*num at_<8*18446744073709551616 by omega) (by decide);have KM:=fun w=>r01_MulV 8 (num at_) w (by decide) (Nat.lt_trans ha8 (by decide)) hl8
           rw [B_num hvat] at KM;obtain ⟨M8,hM8⟩:∃ m,m=B (8*num at_):=⟨_,rfl⟩;have hvM8:valid M8=true:=by rw [hM8];exact valid_B hl8
           have hnM8:num M8=8*num at_:=by rw [hM8,num_B]
           rw [← hM8] at KM;have K1:=fun w=>r11_less ch (B 2) w hvch (valid_B (by decide))
           rw [num_B] at K1;obtain ⟨l1,hl1⟩:∃ b,b=decide (num ch<2):=⟨_,rfl⟩;rw [← hl1] at K1;have K1:=Lib.hid K1;have K2:=fun w=>r11_less mo ch w hvmo hvch
           obtain ⟨l2,hl2⟩:∃ b,b=decide (num mo<num ch):=⟨_,rfl⟩;rw [← hl2] at K2;have K2:=Lib.hid K2;have K3:=fun w=>r11_less sl (B 2) w hvsl (valid_B (by decide))
           rw [num_B] at K3;obtain ⟨l3,hl3⟩:∃ b,b=decide (num sl<2):=⟨_,rfl⟩;rw [← hl3] at K3;have K3:=Lib.hid K3;have K4:=fun w=>r11_less se (B 2) w hvse (valid_B (by decide))
           rw [num_B] at K4;obtain ⟨l4,hl4⟩:∃ b,b=decide (num se<2):=⟨_,rfl⟩;rw [← hl4] at K4;have K4:=Lib.hid K4;have K5:=fun w=>r11_less mo se w hvmo hvse
           obtain ⟨l5,hl5⟩:∃ b,b=decide (num mo<num se):=⟨_,rfl⟩;rw [← hl5] at K5;have K5:=Lib.hid K5;have K6:=fun w=>r11_less at_ (B 2) w hvat (valid_B (by decide))
           rw [num_B] at K6;obtain ⟨l6,hl6⟩:∃ b,b=decide (num at_<2):=⟨_,rfl⟩;rw [← hl6] at K6;have K6:=Lib.hid K6;have K7:=fun w=>r11_less mo M8 w hvmo hvM8
           rw [hnM8] at K7;obtain ⟨l7,hl7⟩:∃ b,b=decide (num mo<8*num at_):=⟨_,rfl⟩;rw [← hl7] at K7;have K7:=Lib.hid K7;have J1:=fun w=>r11_less ha (B 2) w hvha (valid_B (by decide))
           rw [num_B] at J1;obtain ⟨m1,hm1⟩:∃ b,b=decide (num ha<2):=⟨_,rfl⟩;rw [← hm1] at J1;have J1:=Lib.hid J1;have J2:=fun w=>r11_less el (B 2) w hvel (valid_B (by decide))
           rw [num_B] at J2;obtain ⟨m2,hm2⟩:∃ b,b=decide (num el<2):=⟨_,rfl⟩;rw [← hm2] at J2;have J2:=Lib.hid J2;have J3:=fun w=>r11_less es (B 2) w hves (valid_B (by decide))
           rw [num_B] at J3;obtain ⟨m3,hm3⟩:∃ b,b=decide (num es<2):=⟨_,rfl⟩;rw [← hm3] at J3;have J3:=Lib.hid J3;have J4:=fun w=>r11_less bl (B 2) w hvbl (valid_B (by decide))
           rw [num_B] at J4;obtain ⟨m4,hm4⟩:∃ b,b=decide (num bl<2):=⟨_,rfl⟩;rw [← hm4] at J4;have J4:=Lib.hid J4;have J5:=fun w=>r11_less ma (B 2) w hvma (valid_B (by decide))
           rw [num_B] at J5;obtain ⟨m5,hm5⟩:∃ b,b=decide (num ma<2):=⟨_,rfl⟩;rw [← hm5] at J5;have J5:=Lib.hid J5;have htc:=two_cap (ch:=ch) (sl:=sl) (se:=se) (at_:=at_) (ha:=ha) (el:=el) (es:=es) (bl:=bl) (ma:=ma) (mo:=mo);rw [← hl1,← hl2,← hl3,← hl4,← hl5,← hl6,← hl7,← hm1,← hm2,← hm3,← hm4,← hm5] at htc;have HTC:=Lib.hid htc;have KM:=Lib.hid KM;clear htc hM8 hvM8 hnM8 ha8 hl8 hvch hvsl hvse hvat hvha hvel hves hvbl hvma hvmo hl1 hl2 hl3 hl4 hl5 hl6 hl7 hm1 hm2 hm3 hm4 hm5;have HC11:Hid (cs[11]?=some (.string at_)):=Lib.hid (by rw [HCS.out];rfl);go_upto_region 13 with (go_at_call 67;(with_reducible refine (r01_OfL 2 2 _ rfl (by decide)).mono ?_);rintro e w3 ⟨rfl,hb3⟩;have HC7:=Lib.hid (HC5.out.next hb3);clear hb3)
           have c11:=(HC7.out.par.cell 11).trans HC11.out;go_cut [8,9] (fun a b wx=>a=.string M8∧b=.int .i64 0∧RfAt w cs g5 g6 mm mo wm wo wx)
           case first =>
            as_aux_lemma =>
            go_region_held3 (fun w'=>w'.cell? ⟨w.heap.size,11,none⟩=some (.string at_)) (first|go_keep) (first
             | (go_at_call 67;(with_reducible refine (r01_OfL 8 8 _ rfl (by decide)).mono ?_);rintro e w4 ⟨rfl,hb4⟩;have HC8:Hid (RfAt w cs g5 g6 mm mo wm wo w4):=(by first|exact Lib.hid (HC7.out.next hb4)|exact Lib.hid ((HC7.out.next (Below.refl _ _).drew).next hb4));have c11:=(HC8.out.par.cell 11).trans HC11.out;clear hb4)
             | (go_at_call 69;(with_reducible refine (KM.out _).mono ?_);rintro e w5 ⟨rfl,hb5⟩;have HC9:Hid (RfAt w cs g5 g6 mm mo wm wo w5):=(by first|exact Lib.hid (HC8.out.next hb5)|exact Lib.hid ((HC8.out.next (Below.refl _ _).drew).next hb5));have c11:=(HC9.out.par.cell 11).trans HC11.out;clear hb5))
            all_goals
             go_wp2_with fail;go_meet;exact ⟨rfl,rfl,by first|exact HC9.out|exact HC9.out.next (Below.refl _ _).drew⟩
           case rest =>
            obtain ⟨rfl,rfl,hr⟩:=hcut;have HE0:=Lib.hid hr;clear hr HC5 HC7 KM c11;obtain ⟨X,hX⟩:∃ X,X=(l1||l2||l3||l4||l5||l6||l7):=⟨_,rfl⟩;obtain ⟨Y,hY⟩:∃ Y,Y=(m1||m2||m3||m4||m5):=⟨_,rfl⟩;have HXY:Hid ((twoUp [ch,sl,se,at_,ha,el,es,bl,ma]&&capP mo ch se at_)=(!X&&!Y)):=Lib.hid (by rw [HTC.out,hX,hY]);have HX:=Lib.hid hX;have HY:=Lib.hid hY;clear hX hY HTC;go_upto_region 14 with fail
            go_cut [142] (fun v wx=>v=.bool X∧RfAt w cs g5 g6 mm mo wm wo wx)
            case first =>
             obtain ⟨o1,a0,a1,a2,a3⟩:=HE0.out.caps HCS.out;obtain h|h|h|h|h|h|h|h:=chain7 l1 l2 l3 l4 l5 l6 l7
             · as_aux_lemma =>
               obtain rfl:=h;have HR:Hid (X=true):=Lib.hid (by rw [HX.out];rfl);clear J1 J2 J3 J4 J5 HXY HY HX
               go_wp2_with (first
                | (go_at_call 66;(with_reducible refine (K1.out _).mono ?_);rintro e w11 ⟨rfl,hb11⟩;have HE1:=Lib.hid (HE0.out.next hb11);obtain ⟨o1,a0,a1,a2,a3⟩:=HE1.out.caps HCS.out;clear hb11))
               go_meet;exact ⟨by rw [HR.out],HE1.out⟩
             · as_aux_lemma =>
               obtain ⟨rfl,rfl⟩:=h;have HR:Hid (X=true):=Lib.hid (by rw [HX.out];rfl);clear J1 J2 J3 J4 J5 HXY HY HX
               go_wp2_with (first
                | (go_at_call 66;(with_reducible refine (K1.out _).mono ?_);rintro e w11 ⟨rfl,hb11⟩;have HE1:=Lib.hid (HE0.out.next hb11);obtain ⟨o1,a0,a1,a2,a3⟩:=HE1.out.caps HCS.out;clear hb11)
                | (go_at_call 66;(with_reducible refine (K2.out _).mono ?_);rintro e w12 ⟨rfl,hb12⟩;have HE2:=Lib.hid (HE1.out.next hb12);obtain ⟨o1,a0,a1,a2,a3⟩:=HE2.out.caps HCS.out;clear hb12))
               go_meet;exact ⟨by rw [HR.out],HE2.out⟩
             · as_aux_lemma =>
               obtain ⟨rfl,rfl,rfl⟩:=h;have HR:Hid (X=true):=Lib.hid (by rw [HX.out];rfl);clear J1 J2 J3 J4 J5 HXY HY HX
               go_wp2_with (first
                | (go_at_call 66;(with_reducible refine (K1.out _).mono ?_);rintro e w11 ⟨rfl,hb11⟩;have HE1:=Lib.hid (HE0.out.next hb11);obtain ⟨o1,a0,a1,a2,a3⟩:=HE1.out.caps HCS.out;clear hb11)
                | (go_at_call 66;(with_reducible refine (K2.out _).mono ?_);rintro e w12 ⟨rfl,hb12⟩;have HE2:=Lib.hid (HE1.out.next hb12);obtain ⟨o1,a0,a1,a2,a3⟩:=HE2.out.caps HCS.out;clear hb12)
                | (go_at_call 66;(with_reducible refine (K3.out _).mono ?_);rintro e w13 ⟨rfl,hb13⟩;have HE3:=Lib.hid (HE2.out.next hb13);obtain ⟨o1,a0,a1,a2,a3⟩:=HE3.out.caps HCS.out;clear hb13))
               go_meet;exact ⟨by rw [HR.out],HE3.out⟩
             · as_aux_lemma =>
               obtain ⟨rfl,rfl,rfl,rfl⟩:=h;have HR:Hid (X=true):=Lib.hid (by rw [HX.out];rfl);clear J1 J2 J3 J4 J5 HXY HY HX
               go_wp2_with (first
                | (go_at_call 66;(with_reducible refine (K1.out _).mono ?_);rintro e w11 ⟨rfl,hb11⟩;have HE1:=Lib.hid (HE0.out.next hb11);obtain ⟨o1,a0,a1,a2,a3⟩:=HE1.out.caps HCS.out;clear hb11)
                | (go_at_call 66;(with_reducible refine (K2.out _).mono ?_);rintro e w12 ⟨rfl,hb12⟩;have HE2:=Lib.hid (HE1.out.next hb12);obtain ⟨o1,a0,a1,a2,a3⟩:=HE2.out.caps HCS.out;clear hb12)
                | (go_at_call 66;(with_reducible refine (K3.out _).mono ?_);rintro e w13 ⟨rfl,hb13⟩;have HE3:=Lib.hid (HE2.out.next hb13);obtain ⟨o1,a0,a1,a2,a3⟩:=HE3.out.caps HCS.out;clear hb13)
                | (go_at_call 66;(with_reducible refine (K4.out _).mono ?_);rintro e w14 ⟨rfl,hb14⟩;have HE4:=Lib.hid (HE3.out.next hb14);obtain ⟨o1,a0,a1,a2,a3⟩:=HE4.out.caps HCS.out;clear hb14))
               go_meet;exact ⟨by rw [HR.out],HE4.out⟩
             · as_aux_lemma =>
               obtain ⟨rfl,rfl,rfl,rfl,rfl⟩:=h;have HR:Hid (X=true):=Lib.hid (by rw [HX.out];rfl);clear J1 J2 J3 J4 J5 HXY HY HX
               go_wp2_with (first
                | (go_at_call 66;(with_reducible refine (K1.out _).mono ?_);rintro e w11 ⟨rfl,hb11⟩;have HE1:=Lib.hid (HE0.out.next hb11);obtain ⟨o1,a0,a1,a2,a3⟩:=HE1.out.caps HCS.out;clear hb11)
                | (go_at_call 66;(with_reducible refine (K2.out _).mono ?_);rintro e w12 ⟨rfl,hb12⟩;have HE2:=Lib.hid (HE1.out.next hb12);obtain ⟨o1,a0,a1,a2,a3⟩:=HE2.out.caps HCS.out;clear hb12)
                | (go_at_call 66;(with_reducible refine (K3.out _).mono ?_);rintro e w13 ⟨rfl,hb13⟩;have HE3:=Lib.hid (HE2.out.next hb13);obtain ⟨o1,a0,a1,a2,a3⟩:=HE3.out.caps HCS.out;clear hb13)
                | (go_at_call 66;(with_reducible refine (K4.out _).mono ?_);rintro e w14 ⟨rfl,hb14⟩;have HE4:=Lib.hid (HE3.out.next hb14);obtain ⟨o1,a0,a1,a2,a3⟩:=HE4.out.caps HCS.out;clear hb14)
                | (go_at_call 66;(with_reducible refine (K5.out _).mono ?_);rintro e w15 ⟨rfl,hb15⟩;have HE5:=Lib.hid (HE4.out.next hb15);obtain ⟨o1,a0,a1,a2,a3⟩:=HE5.out.caps HCS.out;clear hb15))
               go_meet;exact ⟨by rw [HR.out],HE5.out⟩
             · as_aux_lemma =>
               obtain ⟨rfl,rfl,rfl,rfl,rfl,rfl⟩:=h;have HR:Hid (X=true):=Lib.hid (by rw [HX.out];rfl);clear J1 J2 J3 J4 J5 HXY HY HX
               go_wp2_with (first
                | (go_at_call 66;(with_reducible refine (K1.out _).mono ?_);rintro e w11 ⟨rfl,hb11⟩;have HE1:=Lib.hid (HE0.out.next hb11);obtain ⟨o1,a0,a1,a2,a3⟩:=HE1.out.caps HCS.out;clear hb11)
                | (go_at_call 66;(with_reducible refine (K2.out _).mono ?_);rintro e w12 ⟨rfl,hb12⟩;have HE2:=Lib.hid (HE1.out.next hb12);obtain ⟨o1,a0,a1,a2,a3⟩:=HE2.out.caps HCS.out;clear hb12)
                | (go_at_call 66;(with_reducible refine (K3.out _).mono ?_);rintro e w13 ⟨rfl,hb13⟩;have HE3:=Lib.hid (HE2.out.next hb13);obtain ⟨o1,a0,a1,a2,a3⟩:=HE3.out.caps HCS.out;clear hb13)
                | (go_at_call 66;(with_reducible refine (K4.out _).mono ?_);rintro e w14 ⟨rfl,hb14⟩;have HE4:=Lib.hid (HE3.out.next hb14);obtain ⟨o1,a0,a1,a2,a3⟩:=HE4.out.caps HCS.out;clear hb14)
                | (go_at_call 66;(with_reducible refine (K5.out _).mono ?_);rintro e w15 ⟨rfl,hb15⟩;have HE5:=Lib.hid (HE4.out.next hb15);obtain ⟨o1,a0,a1,a2,a3⟩:=HE5.out.caps HCS.out;clear hb15)
                | (go_at_call 66;(with_reducible refine (K6.out _).mono ?_);rintro e w16 ⟨rfl,hb16⟩;have HE6:=Lib.hid (HE5.out.next hb16);obtain ⟨o1,a0,a1,a2,a3⟩:=HE6.out.caps HCS.out;clear hb16))
               go_meet;exact ⟨by rw [HR.out],HE6.out⟩
             · as_aux_lemma =>
               obtain ⟨rfl,rfl,rfl,rfl,rfl,rfl,rfl⟩:=h;have HR:Hid (X=true):=Lib.hid (by rw [HX.out];rfl);clear J1 J2 J3 J4 J5 HXY HY HX
               go_wp2_with (first
                | (go_at_call 66;(with_reducible refine (K1.out _).mono ?_);rintro e w11 ⟨rfl,hb11⟩;have HE1:=Lib.hid (HE0.out.next hb11);obtain ⟨o1,a0,a1,a2,a3⟩:=HE1.out.caps HCS.out;clear hb11)
                | (go_at_call 66;(with_reducible refine (K2.out _).mono ?_);rintro e w12 ⟨rfl,hb12⟩;have HE2:=Lib.hid (HE1.out.next hb12);obtain ⟨o1,a0,a1,a2,a3⟩:=HE2.out.caps HCS.out;clear hb12)
                | (go_at_call 66;(with_reducible refine (K3.out _).mono ?_);rintro e w13 ⟨rfl,hb13⟩;have HE3:=Lib.hid (HE2.out.next hb13);obtain ⟨o1,a0,a1,a2,a3⟩:=HE3.out.caps HCS.out;clear hb13)
                | (go_at_call 66;(with_reducible refine (K4.out _).mono ?_);rintro e w14 ⟨rfl,hb14⟩;have HE4:=Lib.hid (HE3.out.next hb14);obtain ⟨o1,a0,a1,a2,a3⟩:=HE4.out.caps HCS.out;clear hb14)
                | (go_at_call 66;(with_reducible refine (K5.out _).mono ?_);rintro e w15 ⟨rfl,hb15⟩;have HE5:=Lib.hid (HE4.out.next hb15);obtain ⟨o1,a0,a1,a2,a3⟩:=HE5.out.caps HCS.out;clear hb15)
                | (go_at_call 66;(with_reducible refine (K6.out _).mono ?_);rintro e w16 ⟨rfl,hb16⟩;have HE6:=Lib.hid (HE5.out.next hb16);obtain ⟨o1,a0,a1,a2,a3⟩:=HE6.out.caps HCS.out;clear hb16)
                | (go_at_call 66;(with_reducible refine (K7.out _).mono ?_);rintro e w17 ⟨rfl,hb17⟩;have HE7:=Lib.hid (HE6.out.next hb17);obtain ⟨o1,a0,a1,a2,a3⟩:=HE7.out.caps HCS.out;clear hb17))
               go_meet;exact ⟨by rw [HR.out],HE7.out⟩
             · as_aux_lemma =>
               obtain ⟨rfl,rfl,rfl,rfl,rfl,rfl,rfl⟩:=h;have HR:Hid (X=false):=Lib.hid (by rw [HX.out];rfl);clear J1 J2 J3 J4 J5 HXY HY HX
               go_wp2_with (first
                | (go_at_call 66;(with_reducible refine (K1.out _).mono ?_);rintro e w11 ⟨rfl,hb11⟩;have HE1:=Lib.hid (HE0.out.next hb11);obtain ⟨o1,a0,a1,a2,a3⟩:=HE1.out.caps HCS.out;clear hb11)
                | (go_at_call 66;(with_reducible refine (K2.out _).mono ?_);rintro e w12 ⟨rfl,hb12⟩;have HE2:=Lib.hid (HE1.out.next hb12);obtain ⟨o1,a0,a1,a2,a3⟩:=HE2.out.caps HCS.out;clear hb12)
                | (go_at_call 66;(with_reducible refine (K3.out _).mono ?_);rintro e w13 ⟨rfl,hb13⟩;have HE3:=Lib.hid (HE2.out.next hb13);obtain ⟨o1,a0,a1,a2,a3⟩:=HE3.out.caps HCS.out;clear hb13)
                | (go_at_call 66;(with_reducible refine (K4.out _).mono ?_);rintro e w14 ⟨rfl,hb14⟩;have HE4:=Lib.hid (HE3.out.next hb14);obtain ⟨o1,a0,a1,a2,a3⟩:=HE4.out.caps HCS.out;clear hb14)
                | (go_at_call 66;(with_reducible refine (K5.out _).mono ?_);rintro e w15 ⟨rfl,hb15⟩;have HE5:=Lib.hid (HE4.out.next hb15);obtain ⟨o1,a0,a1,a2,a3⟩:=HE5.out.caps HCS.out;clear hb15)
                | (go_at_call 66;(with_reducible refine (K6.out _).mono ?_);rintro e w16 ⟨rfl,hb16⟩;have HE6:=Lib.hid (HE5.out.next hb16);obtain ⟨o1,a0,a1,a2,a3⟩:=HE6.out.caps HCS.out;clear hb16)
                | (go_at_call 66;(with_reducible refine (K7.out _).mono ?_);rintro e w17 ⟨rfl,hb17⟩;have HE7:=Lib.hid (HE6.out.next hb17);obtain ⟨o1,a0,a1,a2,a3⟩:=HE7.out.caps HCS.out;clear hb17))
               go_meet;exact ⟨by rw [HR.out],HE7.out⟩
            case rest =>
             obtain ⟨rfl,hr⟩:=hcut;have HE0:=Lib.hid hr;clear hr HX K1 K2 K3 K4 K5 K6 K7
             cases hXv:X
             · rw [hXv] at HXY
               clear hXv;go_upto_region 16 with fail
               go_cut [170] (fun v wx=>v=.bool Y∧RfAt w cs g5 g6 mm mo wm wo wx)
               case first =>
                obtain ⟨a0,a1,a2,a3,a4⟩:=HE0.out.rest5 HCS.out;obtain h|h|h|h|h|h:=chain5 m1 m2 m3 m4 m5
                · as_aux_lemma =>
                  obtain rfl:=h;have HR:Hid (Y=true):=Lib.hid (by rw [HY.out];rfl);clear HXY HY
                  go_wp2_with (first
                   | (go_at_call 66;(with_reducible refine (J1.out _).mono ?_);rintro e w11 ⟨rfl,hb11⟩;have HE1:=Lib.hid (HE0.out.next hb11);obtain ⟨a0,a1,a2,a3,a4⟩:=HE1.out.rest5 HCS.out;clear hb11))
                  go_meet;exact ⟨by rw [HR.out],HE1.out⟩
                · as_aux_lemma =>
                  obtain ⟨rfl,rfl⟩:=h;have HR:Hid (Y=true):=Lib.hid (by rw [HY.out];rfl);clear HXY HY
                  go_wp2_with (first
                   | (go_at_call 66;(with_reducible refine (J1.out _).mono ?_);rintro e w11 ⟨rfl,hb11⟩;have HE1:=Lib.hid (HE0.out.next hb11);obtain ⟨a0,a1,a2,a3,a4⟩:=HE1.out.rest5 HCS.out;clear hb11)
                   | (go_at_call 66;(with_reducible refine (J2.out _).mono ?_);rintro e w12 ⟨rfl,hb12⟩;have HE2:=Lib.hid (HE1.out.next hb12);obtain ⟨a0,a1,a2,a3,a4⟩:=HE2.out.rest5 HCS.out;clear hb12))
                  go_meet;exact ⟨by rw [HR.out],HE2.out⟩
                · as_aux_lemma =>
                  obtain ⟨rfl,rfl,rfl⟩:=h;have HR:Hid (Y=true):=Lib.hid (by rw [HY.out];rfl);clear HXY HY
                  go_wp2_with (first
                   | (go_at_call 66;(with_reducible refine (J1.out _).mono ?_);rintro e w11 ⟨rfl,hb11⟩;have HE1:=Lib.hid (HE0.out.next hb11);obtain ⟨a0,a1,a2,a3,a4⟩:=HE1.out.rest5 HCS.out;clear hb11)
                   | (go_at_call 66;(with_reducible refine (J2.out _).mono ?_);rintro e w12 ⟨rfl,hb12⟩;have HE2:=Lib.hid (HE1.out.next hb12);obtain ⟨a0,a1,a2,a3,a4⟩:=HE2.out.rest5 HCS.out;clear hb12)
                   | (go_at_call 66;(with_reducible refine (J3.out _).mono ?_);rintro e w13 ⟨rfl,hb13⟩;have HE3:=Lib.hid (HE2.out.next hb13);obtain ⟨a0,a1,a2,a3,a4⟩:=HE3.out.rest5 HCS.out;clear hb13))
                  go_meet;exact ⟨by rw [HR.out],HE3.out⟩
                · as_aux_lemma =>
                  obtain ⟨rfl,rfl,rfl,rfl⟩:=h;have HR:Hid (Y=true):=Lib.hid (by rw [HY.out];rfl);clear HXY HY
                  go_wp2_with (first
                   | (go_at_call 66;(with_reducible refine (J1.out _).mono ?_);rintro e w11 ⟨rfl,hb11⟩;have HE1:=Lib.hid (HE0.out.next hb11);obtain ⟨a0,a1,a2,a3,a4⟩:=HE1.out.rest5 HCS.out;clear hb11)
                   | (go_at_call 66;(with_reducible refine (J2.out _).mono ?_);rintro e w12 ⟨rfl,hb12⟩;have HE2:=Lib.hid (HE1.out.next hb12);obtain ⟨a0,a1,a2,a3,a4⟩:=HE2.out.rest5 HCS.out;clear hb12)
                   | (go_at_call 66;(with_reducible refine (J3.out _).mono ?_);rintro e w13 ⟨rfl,hb13⟩;have HE3:=Lib.hid (HE2.out.next hb13);obtain ⟨a0,a1,a2,a3,a4⟩:=HE3.out.rest5 HCS.out;clear hb13)
                   | (go_at_call 66;(with_reducible refine (J4.out _).mono ?_);rintro e w14 ⟨rfl,hb14⟩;have HE4:=Lib.hid (HE3.out.next hb14);obtain ⟨a0,a1,a2,a3,a4⟩:=HE4.out.rest5 HCS.out;clear hb14))
                  go_meet;exact ⟨by rw [HR.out],HE4.out⟩
                · as_aux_lemma =>
                  obtain ⟨rfl,rfl,rfl,rfl,rfl⟩:=h;have HR:Hid (Y=true):=Lib.hid (by rw [HY.out];rfl);clear HXY HY
                  go_wp2_with (first
                   | (go_at_call 66;(with_reducible refine (J1.out _).mono ?_);rintro e w11 ⟨rfl,hb11⟩;have HE1:=Lib.hid (HE0.out.next hb11);obtain ⟨a0,a1,a2,a3,a4⟩:=HE1.out.rest5 HCS.out;clear hb11)
                   | (go_at_call 66;(with_reducible refine (J2.out _).mono ?_);rintro e w12 ⟨rfl,hb12⟩;have HE2:=Lib.hid (HE1.out.next hb12);obtain ⟨a0,a1,a2,a3,a4⟩:=HE2.out.rest5 HCS.out;clear hb12)
                   | (go_at_call 66;(with_reducible refine (J3.out _).mono ?_);rintro e w13 ⟨rfl,hb13⟩;have HE3:=Lib.hid (HE2.out.next hb13);obtain ⟨a0,a1,a2,a3,a4⟩:=HE3.out.rest5 HCS.out;clear hb13)
                   | (go_at_call 66;(with_reducible refine (J4.out _).mono ?_);rintro e w14 ⟨rfl,hb14⟩;have HE4:=Lib.hid (HE3.out.next hb14);obtain ⟨a0,a1,a2,a3,a4⟩:=HE4.out.rest5 HCS.out;clear hb14)
                   | (go_at_call 66;(with_reducible refine (J5.out _).mono ?_);rintro e w15 ⟨rfl,hb15⟩;have HE5:=Lib.hid (HE4.out.next hb15);obtain ⟨a0,a1,a2,a3,a4⟩:=HE5.out.rest5 HCS.out;clear hb15))
                  go_meet;exact ⟨by rw [HR.out],HE5.out⟩
                · as_aux_lemma =>
                  obtain ⟨rfl,rfl,rfl,rfl,rfl⟩:=h;have HR:Hid (Y=false):=Lib.hid (by rw [HY.out];rfl);clear HXY HY
                  go_wp2_with (first
                   | (go_at_call 66;(with_reducible refine (J1.out _).mono ?_);rintro e w11 ⟨rfl,hb11⟩;have HE1:=Lib.hid (HE0.out.next hb11);obtain ⟨a0,a1,a2,a3,a4⟩:=HE1.out.rest5 HCS.out;clear hb11)
                   | (go_at_call 66;(with_reducible refine (J2.out _).mono ?_);rintro e w12 ⟨rfl,hb12⟩;have HE2:=Lib.hid (HE1.out.next hb12);obtain ⟨a0,a1,a2,a3,a4⟩:=HE2.out.rest5 HCS.out;clear hb12)
                   | (go_at_call 66;(with_reducible refine (J3.out _).mono ?_);rintro e w13 ⟨rfl,hb13⟩;have HE3:=Lib.hid (HE2.out.next hb13);obtain ⟨a0,a1,a2,a3,a4⟩:=HE3.out.rest5 HCS.out;clear hb13)
                   | (go_at_call 66;(with_reducible refine (J4.out _).mono ?_);rintro e w14 ⟨rfl,hb14⟩;have HE4:=Lib.hid (HE3.out.next hb14);obtain ⟨a0,a1,a2,a3,a4⟩:=HE4.out.rest5 HCS.out;clear hb14)
                   | (go_at_call 66;(with_reducible refine (J5.out _).mono ?_);rintro e w15 ⟨rfl,hb15⟩;have HE5:=Lib.hid (HE4.out.next hb15);obtain ⟨a0,a1,a2,a3,a4⟩:=HE5.out.rest5 HCS.out;clear hb15))
                  go_meet;exact ⟨by rw [HR.out],HE5.out⟩
               case rest =>
                obtain ⟨rfl,hr⟩:=hcut;have HE0:=Lib.hid hr;clear hr HY J1 J2 J3 J4 J5
                cases hYv:Y
                · have HR:=Lib.hid (parS_both HF.out HGR.out (by rw [HXY.out,hYv];rfl))
                  clear hYv;go_wp2_with fail;go_ret;exact ⟨ret_int HR.out.symm,HE0.out.par.bel⟩
                · have HR:=Lib.hid (parS_fall HF.out HGR.out (by rw [HXY.out,hYv];rfl))
                  clear hYv;go_wp2_with fail;go_ret;exact ⟨ret_int HR.out.symm,HE0.out.par.bel⟩
             · have HR:=Lib.hid (parS_fall HF.out HGR.out (by rw [HXY.out,hXv];rfl))
               clear hXv;go_wp2_with fail;go_ret;exact ⟨ret_int HR.out.symm,HE0.out.par.bel⟩
         · have HR:Hid (groupP mm mo mg mh wm wo wg wh=false):=Lib.hid (by rw [HBv.out,hBv];rfl)
           clear hBv;go_wp2_with fail;go_ret;exact ⟨ret_int (parS_group HF.out HR.out).symm,HC5.out.par.bel⟩
      · have HR:=Lib.hid (HAG.out hAv)
        clear hAv;go_wp2_with fail;go_ret;exact ⟨ret_int (parS_group HF.out HR.out).symm,HC3.out.par.bel⟩
end Go.Proofs.YtiacajjpkncomaaGreatDoor
