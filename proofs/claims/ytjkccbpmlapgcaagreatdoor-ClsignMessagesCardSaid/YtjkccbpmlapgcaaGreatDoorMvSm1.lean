/- The walks of the reference's package 13 (see SE). -/
import Derived.Test.YtjkccbpmlapgcaaGreatDoorMvJ3
import Derived.Test.YtjkccbpmlapgcaaGreatDoorMvBE
import Derived.Test.YtjkccbpmlapgcaaGreatDoorMvJ4
import Derived.Deep.RegionHeld3
namespace Go.Proofs.YtjkccbpmlapgcaaGreatDoor
open Go.RowKit
set_option maxRecDepth 100000
set_option linter.unusedVariables false
set_option maxHeartbeats 1000000
theorem r13_Check (m o : ByteArray) (w : World) (sm : m.size≤8) :
  Calls Tryz.prog 55 #[.agg #[.string m,.string o]] w fun e w'=>e=.returned (.int .i64 (groupE m o))∧Below w.heap.size w w':=by
 have hr : groupE m o=if (valid m&&valid o)=true then
  if o.toList.isEmpty=true then (if (natBit m 0&&decide (0 < natCmp m (B 8)))=true then 0 else 13)
  else if num m≤1 then 13 else if num o < 2 then 13 else if (num m - 1) % num o=0 then 0 else 13
 else 3:=rfl
 have HR:=Lib.hid hr
 have HS:=Lib.hid (GrAt.box w m o 26)
 have c0:=HS.out.c0
 have c1:=HS.out.c1
 clear hr
 cases h1 : valid m
 · go_enter Tryz.func55, Tryz.ntmps55
   go_wp2_with (first | (go_at_call 53;refine (r01_Valid _ _).mono ?_;rintro e w' ⟨rfl,rfl⟩))
   go_ret
   exact ⟨ret_int (by rw [HR.out,h1]<;>rfl),HS.out.below⟩
 · cases h2 : valid o
   · go_enter Tryz.func55, Tryz.ntmps55
     go_wp2_with (first | (go_at_call 53;refine (r01_Valid _ _).mono ?_;rintro e w' ⟨rfl,rfl⟩))
     go_ret
     exact ⟨ret_int (by rw [HR.out,h1,h2]<;>rfl),HS.out.below⟩
   · have em:=B_num h1
     have h8:=u64_of_size sm
     obtain ⟨M,hM⟩ : ∃ M,num m=M:=⟨_,rfl⟩
     rw [hM] at em h8 HR
     subst em
     cases h3 : o.toList.isEmpty
     · have hO : num o≠0:=by
        intro h0
        rw [← B_num h2,h0,B_isEmpty_true] at h3
        cases h3
       have e0:=B_isEmpty M
       have e1:=B_beq1 M
       have e2:=B_beq1 (num o)
       rw [B_num h2] at e2
       have h1':=h1
       rw [h1,h2] at HR
       by_cases hM0 : M=0
       · have HF : Hid (groupE (B M) o=13):=Lib.hid (by rw [HR.out,if_pos (by rfl),h3,if_neg (by simp),if_pos (by omega)])
         rw [decide_eq_true hM0] at e0
         clear hM0 hO e1 e2
         go_enter Tryz.func55, Tryz.ntmps55
         go_wp2_with (first | (go_at_call 53;refine (r01_Valid _ _).mono ?_;rintro e w' ⟨rfl,rfl⟩))
         go_ret
         exact ⟨ret_int HF.out.symm,HS.out.below⟩
       · rw [decide_eq_false hM0] at e0
         by_cases hM1 : M=1
         · have HF : Hid (groupE (B M) o=13):=Lib.hid (by rw [HR.out,if_pos (by rfl),h3,if_neg (by simp),if_pos (by omega)])
           rw [decide_eq_true hM1] at e1
           clear hM0 hM1 hO e2
           go_enter Tryz.func55, Tryz.ntmps55
           go_wp2_with (first | (go_at_call 53;refine (r01_Valid _ _).mono ?_;rintro e w' ⟨rfl,rfl⟩))
           go_ret
           exact ⟨ret_int HF.out.symm,HS.out.below⟩
         · rw [decide_eq_false hM1] at e1
           by_cases hO1 : num o=1
           · have HF : Hid (groupE (B M) o=13):=Lib.hid (by rw [HR.out,if_pos (by rfl),h3,if_neg (by simp),if_neg (by omega),if_pos (by omega)])
             rw [decide_eq_true hO1] at e2
             clear hM0 hM1 hO hO1
             go_enter Tryz.func55, Tryz.ntmps55
             go_wp2_with (first | (go_at_call 53;refine (r01_Valid _ _).mono ?_;rintro e w' ⟨rfl,rfl⟩))
             go_ret
             exact ⟨ret_int HF.out.symm,HS.out.below⟩
           · rw [decide_eq_false hO1] at e2
             have HR2 : Hid (groupE (B M) o=if (M - 1) % num o=0 then 0 else 13):=Lib.hid (by rw [HR.out,if_pos (by rfl),h3,if_neg (by simp),if_neg (by omega),if_neg (by omega)])
             have hmi : ∀ w,Calls Tryz.prog 108 #[.string (B M),.string ⟨#[1]⟩] w fun e w'=>e=.returned (.string (B (M - 1)))∧Below w.heap.size w w':=fun w=>r01_Minus M 1 w (by omega) (by decide) (by omega)
             have hov:=fun w=>r01_Over (M - 1) (num o) w (u64_lt_lim (by omega)) (valid_num_lt h2) (by omega)
             rw [B_num h2] at hov
             have HMI:=Lib.hid hmi
             obtain ⟨R,hR⟩ : ∃ R,(M - 1) % num o=R:=⟨_,rfl⟩
             rw [hR] at hov HR2
             have HOV:=Lib.hid hov
             have er:=B_isEmpty R
             clear hmi hov hM0 hM1 hO hO1 hR HR
             generalize M - 1=L at *
             by_cases hR0 : R=0
             all_goals
              first | rw [decide_eq_true hR0] at er | rw [decide_eq_false hR0] at er
              have HR0:=Lib.hid hR0
              clear hR0
              go_enter Tryz.func55, Tryz.ntmps55
              go_wp2_with (first | (go_at_call 53;refine (r01_Valid _ _).mono ?_;rintro e w' ⟨rfl,rfl⟩))
              go_region_held3 (fun w'=>w'.cell? ⟨w.heap.size,0,none⟩=some (.string (B M))∧w'.cell? ⟨w.heap.size,1,none⟩=some (.string o)) (first | go_keep) (first | (go_at_call 108;(with_reducible refine (HMI.out _).mono ?_);rintro e w1 ⟨rfl,hb1⟩;have n1 : GrAt w w.heap.size (B M) o w1:=by { first | exact HS.out.next hb1 | exact HS.out.drew.next hb1 };have p1:=n1.c0;have q1:=n1.c1;have H1:=Lib.hid n1;clear n1 hb1) | (go_at_call 107;(with_reducible refine (HOV.out _).mono ?_);rintro e w2 ⟨rfl,hb2⟩;have n2 : GrAt w w.heap.size (B M) o w2:=by { first | exact H1.out.next hb2 | exact H1.out.drew.next hb2 };have p2:=n2.c0;have q2:=n2.c1;have H2:=Lib.hid n2;clear n2 hb2))
              all_goals
               go_wp2_with fail
               go_ret
               exact ⟨ret_int (by rw [HR2.out];first | exact (if_pos HR0.out).symm | exact (if_neg HR0.out).symm),H2.out.below⟩
     · rw [h1,h2,if_pos (by rfl),h3,if_pos (by rfl)] at HR
       by_cases hM0 : M=0
       · subst hM0
         have e0:=B_isEmpty_true
         have HF : Hid (groupE (B 0) o=13):=Lib.hid (by rw [HR.out];rfl)
         go_enter Tryz.func55, Tryz.ntmps55
         go_wp2_with (first | (go_at_call 53;refine (r01_Valid _ _).mono ?_;rintro e w' ⟨rfl,rfl⟩))
         go_ret
         exact ⟨ret_int HF.out.symm,HS.out.below⟩
       · have he:=B_isEmpty_false hM0
         have hp : 0 < (B M).size:=by
          rcases Nat.eq_zero_or_pos (B M).size with h1 | h1
          · exfalso
            rw [B_size] at h1
            exact hM0 (enc_eq_nil (List.eq_nil_of_length_eq_zero h1))
          · exact h1
         have hd:=low_digit M hM0 hp
         have hbit : natBit (B M) 0=decide (M % 2=1):=by
          unfold natBit
          rw [h1,num_B,Nat.pow_zero,Nat.div_one]
          rfl
         rw [hbit] at HR
         by_cases hpar : M % 2=1
         · have k0 : ((((B M)[(B M).size - 1]'(by omega)).toNat : Nat) : Int) % 2=1:=by omega
           rw [decide_eq_true hpar,Bool.true_and] at HR
           obtain ⟨cv,hcv⟩ : ∃ cv,natCmp (B M) (B 8)=cv:=⟨_,rfl⟩
           have hor : ∀ w,Calls Tryz.prog 71 #[.string (B M),.string ⟨#[8]⟩] w fun e w'=>e=.returned (.int .i64 (natCmp (B M) (B 8)))∧Below w.heap.size w w':=fun w=>r01_Order_valid (B M) (B 8) w h1 (valid_B (u64_lt_lim (by decide)))
           rw [hcv] at hor HR
           have HOR:=Lib.hid hor
           clear hor hcv hd hbit hM0 hpar
           by_cases h5 : 0 < cv
           all_goals
            first | have k1 : decide (cv≤0)=false:=decide_eq_false (Int.not_le.2 h5) | have k1 : decide (cv≤0)=true:=decide_eq_true (Int.not_lt.1 h5)
            have H5:=Lib.hid h5
            clear h5
            go_enter Tryz.func55, Tryz.ntmps55
            go_wp2_with (first | (go_at_call 53;refine (r01_Valid _ _).mono ?_;rintro e w' ⟨rfl,rfl⟩) | (go_at_call 71;(with_reducible refine (HOR.out _).mono ?_);rintro e w1 ⟨rfl,hb1⟩;have n1 : GrAt w w.heap.size (B M) o w1:=by { first | exact HS.out.next hb1 | exact HS.out.drew.next hb1 };have p1:=n1.c0;have q1:=n1.c1;have H1:=Lib.hid n1;clear n1 hb1))
            go_ret
            exact ⟨ret_int (by rw [HR.out];first | exact (if_pos (decide_eq_true H5.out)).symm | exact (if_neg (by rw [decide_eq_false (Int.not_lt.2 H5.out)];simp)).symm),H1.out.below⟩
         · have k0 : ((((B M)[(B M).size - 1]'(by omega)).toNat : Nat) : Int) % 2=0:=by omega
           rw [decide_eq_false hpar] at HR
           have HF : Hid (groupE (B M) o=13):=Lib.hid (by rw [HR.out];rfl)
           clear hd hbit hM0 hpar
           go_enter Tryz.func55, Tryz.ntmps55
           go_wp2_with (first | (go_at_call 53;refine (r01_Valid _ _).mono ?_;rintro e w' ⟨rfl,rfl⟩))
           go_ret
           exact ⟨ret_int HF.out.symm,HS.out.below⟩
end Go.Proofs.YtjkccbpmlapgcaaGreatDoor
namespace Go.Proofs.YtjkccbpmlapgcaaGreatDoor
open Go.RowKit
set_option maxRecDepth 100000
set_option linter.unusedVariables false
set_option maxHeartbeats 1000000
theorem groupE_good {m o : ByteArray} (hg : groupE m o=0) : valid m=true∧valid o=true∧(o.toList.isEmpty=true→goodS m o=true):=by
 unfold groupE at hg
 split at hg
 · rename_i hv
   rw [Bool.and_eq_true] at hv
   refine ⟨hv.1,hv.2,fun ho=>?_⟩
   rw [if_pos ho] at hg
   split at hg
   · rename_i h8
     rw [Bool.and_eq_true] at h8
     unfold goodS
     rw [hv.1,ho,h8.1,h8.2]
     rfl
   · cases hg
 · cases hg
theorem r13_has (m o x : ByteArray) (w : World) (sm : m.size≤8) (hg : groupE m o=0) (hv : valid x=true) :
  Calls Tryz.prog 75 #[.agg #[.string m,.string o],.string x] w fun e w'=>e=.returned (.bool (hasG m o x))∧Below w.heap.size w w':=by
 obtain ⟨vm,vo,hgood⟩:=groupE_good hg
 have HS:=Lib.hid (GrAt.box w m o 26)
 have c0:=HS.out.c0
 have c1:=HS.out.c1
 have H9:=Lib.hid (fun w=>r09_Has m o x w sm)
 have hr : hasG m o x=if o.toList.isEmpty then hasS m o x else pgHas m o x:=rfl
 have HR:=Lib.hid hr
 clear hr
 cases h3 : o.toList.isEmpty
 · rw [h3] at HR
   generalize pgHas m o x=b at *
   clear hgood vm vo hg hv
   go_enter Tryz.func75, Tryz.ntmps75
   go_wp2_with (first | (go_at_call 129;(with_reducible refine (H9.out _).mono ?_);rintro e w1 ⟨rfl,hb1⟩))
   go_ret
   exact ⟨ret_bool (by rw [HR.out];rfl),(HS.out.next hb1).below⟩
 · have hr2 : hasG m o x=(!x.toList.isEmpty&&(decide (natCmp x m < 0)&&decide (Nat.gcd (num x) (num m)=1))):=by
    rw [HR.out,if_pos h3]
    unfold hasS
    rw [hgood h3,hv,Bool.true_and,Bool.true_and,Bool.and_assoc]
   have HR2:=Lib.hid hr2
   have h8:=u64_of_size sm
   have hlt:=fun h=>natCmp_neg (a:=x) (b:=m) hv vm h
   have hor:=fun w=>r01_Order_valid x m w hv vm
   obtain ⟨cv,hcv⟩ : ∃ cv,natCmp x m=cv:=⟨_,rfl⟩
   rw [hcv] at hor hlt HR2
   have HOR:=Lib.hid hor
   clear hor hcv hr2
   cases h4 : x.toList.isEmpty
   · by_cases h5 : cv < 0
     · have k1 : decide (cv < 0)=true:=decide_eq_true h5
       have hco:=fun w=>r01_Common (num x) (num m) w (by have:=hlt h5;omega) h8
       rw [B_num hv,B_num vm] at hco
       have kb:=B_beq1 (Nat.gcd (num x) (num m))
       have HF : Hid (hasG m o x=((B (Nat.gcd (num x) (num m))).toList==[1])):=Lib.hid (by rw [HR2.out,h4,k1,kb,Bool.eq_iff_iff];simp)
       obtain ⟨G,hG⟩ : ∃ G,Nat.gcd (num x) (num m)=G:=⟨_,rfl⟩
       clear kb
       rw [hG] at hco HF
       have HCO:=Lib.hid hco
       clear hG hco hlt h5 hgood vm vo hg hv h8
       go_enter Tryz.func75, Tryz.ntmps75
       go_wp2_with (first | (go_at_call 71;(with_reducible refine (HOR.out _).mono ?_);rintro e w1 ⟨rfl,hb1⟩;have n1:=HS.out.next hb1;have p1:=n1.c0;have q1:=n1.c1;have H1:=Lib.hid n1;clear n1 hb1) | (go_at_call 130;(with_reducible refine (HCO.out _).mono ?_);rintro e w2 ⟨rfl,hb2⟩))
       go_ret
       exact ⟨ret_bool HF.out.symm,(H1.out.next hb2).below⟩
     · have k1 : decide (cv < 0)=false:=decide_eq_false h5
       have HF : Hid (hasG m o x=false):=Lib.hid (by rw [HR2.out,h4,k1];rfl)
       clear hlt h5 hgood vm vo hg hv h8
       go_enter Tryz.func75, Tryz.ntmps75
       go_wp2_with (first | (go_at_call 71;(with_reducible refine (HOR.out _).mono ?_);rintro e w1 ⟨rfl,hb1⟩;have n1:=HS.out.next hb1;have p1:=n1.c0;have q1:=n1.c1;have H1:=Lib.hid n1;clear n1 hb1))
       go_ret
       exact ⟨ret_bool HF.out.symm,H1.out.below⟩
   · have HF : Hid (hasG m o x=false):=Lib.hid (by rw [HR2.out,h4];rfl)
     clear hlt hgood vm vo hg hv h8
     go_enter Tryz.func75, Tryz.ntmps75
     go_wp2_with fail
     go_ret
     exact ⟨ret_bool HF.out.symm,HS.out.below⟩
theorem hasG_valid {m o x : ByteArray} (h : valid x=false) : hasG m o x=false:=by
 unfold hasG hasS pgHas
 rw [h]
 split<;>simp
theorem r13_Has (m o x : ByteArray) (w : World) (sm : m.size≤8) :
  Calls Tryz.prog 35 #[.agg #[.string m,.string o],.string x] w fun e w'=>e=.returned (.bool (decide (groupE m o=0)&&hasG m o x))∧Below w.heap.size w w':=by
 have HS:=Lib.hid (GrAt.box w m o 26)
 have HCK:=Lib.hid (fun w=>r13_Check m o w sm)
 by_cases h : groupE m o=0
 · cases hv : valid x
   · have HF : Hid ((decide (groupE m o=0)&&hasG m o x)=false):=Lib.hid (by rw [hasG_valid hv,Bool.and_false])
     generalize (decide (groupE m o=0)&&hasG m o x)=R at *
     rw [h] at HCK
     clear h
     go_enter Tryz.func35, Tryz.ntmps35
     go_wp2_with (first | (go_at_call 55;(with_reducible refine (HCK.out _).mono ?_);rintro e w1 ⟨rfl,hb1⟩;have n1:=HS.out.next hb1;have p1:=n1.c0;have q1:=n1.c1;have HN:=Lib.hid n1;clear n1 hb1) | (go_at_call 53;refine (r01_Valid _ _).mono ?_;rintro e w' ⟨rfl,rfl⟩))
     go_ret
     exact ⟨ret_bool HF.out.symm,HN.out.below⟩
   · have HH:=Lib.hid (fun w=>r13_has m o x w sm h hv)
     have HF : Hid ((decide (groupE m o=0)&&hasG m o x)=hasG m o x):=Lib.hid (by rw [decide_eq_true h,Bool.true_and])
     generalize (decide (groupE m o=0)&&hasG m o x)=R at *
     rw [h] at HCK
     clear h
     generalize hasG m o x=b at *
     go_enter Tryz.func35, Tryz.ntmps35
     go_wp2_with (first | (go_at_call 55;(with_reducible refine (HCK.out _).mono ?_);rintro e w1 ⟨rfl,hb1⟩;have n1:=HS.out.next hb1;have p1:=n1.c0;have q1:=n1.c1;have HN:=Lib.hid n1;clear n1 hb1) | (go_at_call 53;refine (r01_Valid _ _).mono ?_;rintro e w' ⟨rfl,rfl⟩) | (go_at_call 75;(with_reducible refine (HH.out _).mono ?_);rintro e w2 ⟨rfl,hb2⟩))
     go_ret
     exact ⟨ret_bool HF.out.symm,(HN.out.next hb2).below⟩
 · have k1 : (groupE m o==0)=false:=by rw [beq_eq_false_iff_ne];exact h
   have HF : Hid ((decide (groupE m o=0)&&hasG m o x)=false):=Lib.hid (by rw [decide_eq_false h];rfl)
   generalize (decide (groupE m o=0)&&hasG m o x)=R at *
   generalize groupE m o=ge at *
   clear h
   go_enter Tryz.func35, Tryz.ntmps35
   go_wp2_with (first | (go_at_call 55;(with_reducible refine (HCK.out _).mono ?_);rintro e w1 ⟨rfl,hb1⟩;have n1:=HS.out.next hb1;have p1:=n1.c0;have q1:=n1.c1;have HN:=Lib.hid n1;clear n1 hb1))
   go_ret
   exact ⟨ret_bool HF.out.symm,HN.out.below⟩
theorem r03_Power (a m e : Nat) (w : World) (ha : a < lim) (hm : m < 18446744073709551616) (h0 : 0 < m) (he : e < lim) :
  Calls Tryz.prog 159 #[.string (B a),.agg #[.bool false,.string (B e)],.string (B m)] w fun r w'=>r=.returned (.tuple #[.string (B (a ^ e % m)),.int .i64 0])∧Below w.heap.size w w':=by
 have hva:=valid_B ha
 have hve:=valid_B he
 have hvm:=valid_B (u64_lt_lim hm)
 have hne:=B_isEmpty_false (show m≠0 by omega)
 have hra:=fun w=>r03_raise a m (B e) w ha hm h0 hve
 rw [num_B] at hra
 have HRA:=Lib.hid hra
 have HVI:=Lib.hid (fun w=>r02_Valid e w he)
 clear ha hm h0 he hra
 generalize a ^ e % m=R at *
 go_enter Tryz.func159, Tryz.ntmps159
 go_wp2_with (first | (go_at_call 53;refine (r01_Valid _ _).mono ?_;rintro e' w' ⟨rfl,rfl⟩) | (go_at_call 110;(with_reducible refine (HVI.out _).mono ?_);rintro e' w1 ⟨rfl,hb1⟩;have c0 : w1.cell? ⟨w.heap.size,0,none⟩=some (.bool false):=(hb1.cell (p:=⟨w.heap.size,0,none⟩) (by simp)).trans (by simp [go_sem]);have c1 : w1.cell? ⟨w.heap.size,1,none⟩=some (.string (B e)):=(hb1.cell (p:=⟨w.heap.size,1,none⟩) (by simp)).trans (by simp [go_sem])) | (go_at_call 187;(with_reducible refine (HRA.out _).mono ?_);rintro e' w2 ⟨rfl,hb2⟩))
 go_ret2
 exact ⟨rfl,below2 (below_box' hb1) hb2⟩
theorem r13_raw (m o : ByteArray) (a e : Nat) (w : World) (ha : a < lim) (sm : m.size≤8) (vm : valid m=true) (h0 : 0 < num m) (he : e < lim) :
  Calls Tryz.prog 112 #[.agg #[.string m,.string o],.string (B a),.agg #[.bool false,.string (B e)]] w fun r w'=>r=.returned (.string (B (a ^ e % num m)))∧Below w.heap.size w w':=by
 have hp:=fun w=>r03_Power a (num m) e w ha (u64_of_size sm) h0 he
 rw [B_num vm] at hp
 have HP:=Lib.hid hp
 clear hp ha sm vm h0 he
 generalize a ^ e % num m=R at *
 go_enter Tryz.func112, Tryz.ntmps112
 go_wp2_with (first | (go_at_call 159;(with_reducible refine (HP.out _).mono ?_);rintro e' w1 ⟨rfl,hb1⟩))
 go_ret
 exact ⟨rfl,(((Below.refl _ _).alloc (Nat.le_refl _) _).alloc (by simp) _).trans (hb1.mono (by simp;omega))⟩
structure GrI (w : World) (e : ByteArray) (wx : World) : Prop where
 c0 : wx.cell? ⟨w.heap.size+1,0,none⟩=some (.bool false)
 c1 : wx.cell? ⟨w.heap.size+1,1,none⟩=some (.string e)
 size : w.heap.size+1 < wx.heap.size
theorem GrI.next {w wx w' : World} {e : ByteArray} (h : GrI w e wx) (hb : Below wx.heap.size wx w') : GrI w e w' :=
 ⟨(hb.cell (p:=⟨w.heap.size+1,0,none⟩) h.size).trans h.c0,(hb.cell (p:=⟨w.heap.size+1,1,none⟩) h.size).trans h.c1,Nat.lt_of_lt_of_le h.size hb.size⟩
end Go.Proofs.YtjkccbpmlapgcaaGreatDoor
