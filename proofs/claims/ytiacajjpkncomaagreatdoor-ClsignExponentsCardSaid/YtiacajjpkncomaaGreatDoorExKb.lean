/- Names on both sides: the program's isName and the reference's Name. -/
import Derived.Test.YtiacajjpkncomaaGreatDoorExJ8
import Derived.Deep.DeepCutAuto
import Derived.Deep.CutBlock
namespace Go.Proofs.YtiacajjpkncomaaGreatDoor
open Go.RowKit
set_option maxRecDepth 100000
set_option linter.unusedVariables false
set_option maxHeartbeats 8000000
theorem nmB_iff (i c:Nat):nmB i c=true↔((97≤c∧c≤122)∨(65≤c∧c≤90))∨(i≠0∧(c=95∨(48≤c∧c≤57))):=by
 simp [nmB,letterB]
theorem nmB_no {i c:Nat} (h:¬ (((97≤c∧c≤122)∨(65≤c∧c≤90))∨(i≠0∧(c=95∨(48≤c∧c≤57))))):nmB i c=false:=by
 cases hb:nmB i c
 · rfl
 · exact absurd ((nmB_iff i c).1 hb) h
def OkTo (s:ByteArray) (k:Nat):Prop:=∀ i,i<k→nmB i (byteAt s i)=true
theorem OkTo.snoc {s:ByteArray} {k:Nat} (h:OkTo s k) (hk:nmB k (byteAt s k)=true):OkTo s (k+1):=fun i hi=>by
 rcases Nat.lt_or_ge i k with h1|h1
 · exact h i h1
 · obtain rfl:i=k:=by omega
   exact hk
theorem byteAt_eq {s:ByteArray} {k:Nat} (h:k<s.size):byteAt s k=s[k].toNat:=by
 unfold byteAt;have h2:k<s.data.toList.length:=by simpa using h
 rw [List.getD_eq_getElem?_getD,List.getElem?_eq_getElem h2];rfl
theorem empty_no {s:ByteArray} (h0:s.size≠0):s.toList.isEmpty=false:=by
 rw [ByteArray.toList_eq,List.isEmpty_eq_false_iff];intro e;have:=size_eq s;rw [e,List.length_nil] at this;omega
theorem nmS_ne {s:ByteArray} (h:OkTo s s.size) (h0:s.size≠0):nmS s=decide (s.size≤32):=by
 rw [nmT_yes h,empty_no h0];rfl
theorem nmS_empty:nmS ByteArray.empty=false:=by decide +kernel
theorem retB {a b:Bool} (h:b=a):Ending.returned (.bool a)=.returned (.bool b):=by rw [h]
theorem iss_isName (s:ByteArray) (w:World) (hs:s.size≤100000) :
  Calls Tryz.prog 80 #[.string s] w fun e w'=>e=.returned (.bool (nmS s))∧w=w':=by
 by_cases h0:s.size=0
 · obtain rfl:s=ByteArray.empty:=by
    apply ByteArray.ext;apply Array.eq_empty_of_size_eq_zero;exact h0
   rw [nmS_empty]
   go_enter Tryz.func80, Tryz.ntmps80
   go_wp2;refine wp_loop_rounds 1 ?_;rw [rounds_succ];go_wp2;go_ret;exact ⟨rfl,rfl⟩
 have H0:=Lib.hid h0;have hne:=empty_no h0;clear h0
 go_enter Tryz.func80, Tryz.ntmps80
 go_wp2;go_loop [8] (fun i=>∃ k:Nat,k≤s.size∧i=.int .i64 k∧OkTo s k) (fun i=>s.size-(intOf i).toNat)
 case atStart=>exact ⟨0,Nat.zero_le _,rfl,fun i hi=>absurd hi (Nat.not_lt_zero i)⟩
 case round =>
  obtain ⟨k,hk,rfl,hok⟩:=hrel;have HOK:=Lib.hid hok;clear hok;by_cases hlt:k<s.size
  · have hb:=byteAt_eq hlt
    have HB:=Lib.hid hb;clear hb;by_cases a0:97≤s[k].toNat
    · by_cases a1:s[k].toNat≤122
      · have a2:=a0
        have a3:=a1;have q0:decide ((97:Int)≤(s[k].toNat:Int))=true:=decide_eq_true (by omega);have q1:decide ((s[k].toNat:Int)≤122)=true:=decide_eq_true (by omega);have HX:Hid (nmB k (byteAt s k)=true):=Lib.hid ((nmB_iff _ _).2 (by rw [HB.out];omega));clear a0 a1 a2 a3;go_wp2;go_round
        case rel=>exact ⟨k+1,by omega,by go_num,HOK.out.snoc HX.out⟩
        case measure=>simp [intOf];omega
      · skip
        by_cases a2:k=0
        · have a3:=a2
          have q0:decide ((97:Int)≤(s[k].toNat:Int))=true:=decide_eq_true (by omega);have q1:decide ((s[k].toNat:Int)≤122)=false:=decide_eq_false (by omega);have q2:decide ((65:Int)≤(s[k].toNat:Int))=true:=decide_eq_true (by omega);have q3:decide ((s[k].toNat:Int)≤90)=false:=decide_eq_false (by omega);have q4:((k:Int)==0)=true:=by first|(rw [beq_iff_eq];omega)|(rw [beq_eq_false_iff_ne];omega)
          have q5:((k:Int) != 0)=false:=by first|(rw [bne_iff_ne];omega)|(rw [bne_eq_false_iff_eq];omega)
          have HX:Hid (nmB k (byteAt s k)=false):=Lib.hid (nmB_no (by rw [HB.out];omega));clear a0 a1 a2 a3;go_wp2;go_ret;exact ⟨retB (nmT_no hlt HX.out),rfl⟩
        · by_cases a3:s[k].toNat=95
          · skip
            have q0:decide ((97:Int)≤(s[k].toNat:Int))=true:=decide_eq_true (by omega);have q1:decide ((s[k].toNat:Int)≤122)=false:=decide_eq_false (by omega);have q2:decide ((65:Int)≤(s[k].toNat:Int))=true:=decide_eq_true (by omega);have q3:decide ((s[k].toNat:Int)≤90)=false:=decide_eq_false (by omega);have q4:((k:Int)==0)=false:=by first|(rw [beq_iff_eq];omega)|(rw [beq_eq_false_iff_ne];omega)
            have q5:((k:Int) != 0)=true:=by first|(rw [bne_iff_ne];omega)|(rw [bne_eq_false_iff_eq];omega)
            have q6:((s[k].toNat:Int)==95)=true:=by first|(rw [beq_iff_eq];omega)|(rw [beq_eq_false_iff_ne];omega)
            have q7:((s[k].toNat:Int) != 95)=false:=by first|(rw [bne_iff_ne];omega)|(rw [bne_eq_false_iff_eq];omega)
            have HX:Hid (nmB k (byteAt s k)=true):=Lib.hid ((nmB_iff _ _).2 (by rw [HB.out];omega));clear a0 a1 a2 a3;go_wp2;go_round
            case rel=>exact ⟨k+1,by omega,by go_num,HOK.out.snoc HX.out⟩
            case measure=>simp [intOf];omega
          · by_cases a4:s[k].toNat<48
            · skip
              have q0:decide ((97:Int)≤(s[k].toNat:Int))=true:=decide_eq_true (by omega);have q1:decide ((s[k].toNat:Int)≤122)=false:=decide_eq_false (by omega);have q2:decide ((65:Int)≤(s[k].toNat:Int))=true:=decide_eq_true (by omega);have q3:decide ((s[k].toNat:Int)≤90)=false:=decide_eq_false (by omega);have q4:((k:Int)==0)=false:=by first|(rw [beq_iff_eq];omega)|(rw [beq_eq_false_iff_ne];omega)
              have q5:((k:Int) != 0)=true:=by first|(rw [bne_iff_ne];omega)|(rw [bne_eq_false_iff_eq];omega)
              have q6:((s[k].toNat:Int)==95)=false:=by first|(rw [beq_iff_eq];omega)|(rw [beq_eq_false_iff_ne];omega)
              have q7:((s[k].toNat:Int) != 95)=true:=by first|(rw [bne_iff_ne];omega)|(rw [bne_eq_false_iff_eq];omega)
              have q8:decide ((s[k].toNat:Int)<48)=true:=decide_eq_true (by omega);have HX:Hid (nmB k (byteAt s k)=false):=Lib.hid (nmB_no (by rw [HB.out];omega));clear a0 a1 a2 a3 a4;go_wp2;go_ret;exact ⟨retB (nmT_no hlt HX.out),rfl⟩
            · by_cases a5:s[k].toNat≤57
              · skip
                have q0:decide ((97:Int)≤(s[k].toNat:Int))=true:=decide_eq_true (by omega);have q1:decide ((s[k].toNat:Int)≤122)=false:=decide_eq_false (by omega);have q2:decide ((65:Int)≤(s[k].toNat:Int))=true:=decide_eq_true (by omega);have q3:decide ((s[k].toNat:Int)≤90)=false:=decide_eq_false (by omega);have q4:((k:Int)==0)=false:=by first|(rw [beq_iff_eq];omega)|(rw [beq_eq_false_iff_ne];omega)
                have q5:((k:Int) != 0)=true:=by first|(rw [bne_iff_ne];omega)|(rw [bne_eq_false_iff_eq];omega)
                have q6:((s[k].toNat:Int)==95)=false:=by first|(rw [beq_iff_eq];omega)|(rw [beq_eq_false_iff_ne];omega)
                have q7:((s[k].toNat:Int) != 95)=true:=by first|(rw [bne_iff_ne];omega)|(rw [bne_eq_false_iff_eq];omega)
                have q8:decide ((s[k].toNat:Int)<48)=false:=decide_eq_false (by omega);have q9:decide ((57:Int)<(s[k].toNat:Int))=false:=decide_eq_false (by omega);have HX:Hid (nmB k (byteAt s k)=true):=Lib.hid ((nmB_iff _ _).2 (by rw [HB.out];omega));clear a0 a1 a2 a3 a4 a5;go_wp2;go_round
                case rel=>exact ⟨k+1,by omega,by go_num,HOK.out.snoc HX.out⟩
                case measure=>simp [intOf];omega
              · skip
                have q0:decide ((97:Int)≤(s[k].toNat:Int))=true:=decide_eq_true (by omega);have q1:decide ((s[k].toNat:Int)≤122)=false:=decide_eq_false (by omega);have q2:decide ((65:Int)≤(s[k].toNat:Int))=true:=decide_eq_true (by omega);have q3:decide ((s[k].toNat:Int)≤90)=false:=decide_eq_false (by omega);have q4:((k:Int)==0)=false:=by first|(rw [beq_iff_eq];omega)|(rw [beq_eq_false_iff_ne];omega)
                have q5:((k:Int) != 0)=true:=by first|(rw [bne_iff_ne];omega)|(rw [bne_eq_false_iff_eq];omega)
                have q6:((s[k].toNat:Int)==95)=false:=by first|(rw [beq_iff_eq];omega)|(rw [beq_eq_false_iff_ne];omega)
                have q7:((s[k].toNat:Int) != 95)=true:=by first|(rw [bne_iff_ne];omega)|(rw [bne_eq_false_iff_eq];omega)
                have q8:decide ((s[k].toNat:Int)<48)=false:=decide_eq_false (by omega);have q9:decide ((57:Int)<(s[k].toNat:Int))=true:=decide_eq_true (by omega);have HX:Hid (nmB k (byteAt s k)=false):=Lib.hid (nmB_no (by rw [HB.out];omega));clear a0 a1 a2 a3 a4 a5;go_wp2;go_ret;exact ⟨retB (nmT_no hlt HX.out),rfl⟩
    · by_cases a1:65≤s[k].toNat
      · by_cases a6:s[k].toNat≤90
        · have a2:=a0
          have a3:=a1;have q0:decide ((97:Int)≤(s[k].toNat:Int))=false:=decide_eq_false (by omega);have q1:decide ((65:Int)≤(s[k].toNat:Int))=true:=decide_eq_true (by omega);have q2:decide ((s[k].toNat:Int)≤90)=true:=decide_eq_true (by omega);have HX:Hid (nmB k (byteAt s k)=true):=Lib.hid ((nmB_iff _ _).2 (by rw [HB.out];omega));clear a0 a1 a2 a3 a6;go_wp2;go_round
          case rel=>exact ⟨k+1,by omega,by go_num,HOK.out.snoc HX.out⟩
          case measure=>simp [intOf];omega
        · skip
          by_cases a2:k=0
          · have a3:=a2
            have q0:decide ((97:Int)≤(s[k].toNat:Int))=false:=decide_eq_false (by omega);have q1:decide ((65:Int)≤(s[k].toNat:Int))=true:=decide_eq_true (by omega);have q2:decide ((s[k].toNat:Int)≤90)=false:=decide_eq_false (by omega);have q3:((k:Int)==0)=true:=by first|(rw [beq_iff_eq];omega)|(rw [beq_eq_false_iff_ne];omega)
            have q4:((k:Int) != 0)=false:=by first|(rw [bne_iff_ne];omega)|(rw [bne_eq_false_iff_eq];omega)
            have HX:Hid (nmB k (byteAt s k)=false):=Lib.hid (nmB_no (by rw [HB.out];omega));clear a6 a0 a1 a2 a3;go_wp2;go_ret;exact ⟨retB (nmT_no hlt HX.out),rfl⟩
          · by_cases a3:s[k].toNat=95
            · skip
              have q0:decide ((97:Int)≤(s[k].toNat:Int))=false:=decide_eq_false (by omega);have q1:decide ((65:Int)≤(s[k].toNat:Int))=true:=decide_eq_true (by omega);have q2:decide ((s[k].toNat:Int)≤90)=false:=decide_eq_false (by omega);have q3:((k:Int)==0)=false:=by first|(rw [beq_iff_eq];omega)|(rw [beq_eq_false_iff_ne];omega)
              have q4:((k:Int) != 0)=true:=by first|(rw [bne_iff_ne];omega)|(rw [bne_eq_false_iff_eq];omega)
              have q5:((s[k].toNat:Int)==95)=true:=by first|(rw [beq_iff_eq];omega)|(rw [beq_eq_false_iff_ne];omega)
              have q6:((s[k].toNat:Int) != 95)=false:=by first|(rw [bne_iff_ne];omega)|(rw [bne_eq_false_iff_eq];omega)
              have HX:Hid (nmB k (byteAt s k)=true):=Lib.hid ((nmB_iff _ _).2 (by rw [HB.out];omega));clear a6 a0 a1 a2 a3;go_wp2;go_round
              case rel=>exact ⟨k+1,by omega,by go_num,HOK.out.snoc HX.out⟩
              case measure=>simp [intOf];omega
            · by_cases a4:s[k].toNat<48
              · skip
                have q0:decide ((97:Int)≤(s[k].toNat:Int))=false:=decide_eq_false (by omega);have q1:decide ((65:Int)≤(s[k].toNat:Int))=true:=decide_eq_true (by omega);have q2:decide ((s[k].toNat:Int)≤90)=false:=decide_eq_false (by omega);have q3:((k:Int)==0)=false:=by first|(rw [beq_iff_eq];omega)|(rw [beq_eq_false_iff_ne];omega)
                have q4:((k:Int) != 0)=true:=by first|(rw [bne_iff_ne];omega)|(rw [bne_eq_false_iff_eq];omega)
                have q5:((s[k].toNat:Int)==95)=false:=by first|(rw [beq_iff_eq];omega)|(rw [beq_eq_false_iff_ne];omega)
                have q6:((s[k].toNat:Int) != 95)=true:=by first|(rw [bne_iff_ne];omega)|(rw [bne_eq_false_iff_eq];omega)
                have q7:decide ((s[k].toNat:Int)<48)=true:=decide_eq_true (by omega);have HX:Hid (nmB k (byteAt s k)=false):=Lib.hid (nmB_no (by rw [HB.out];omega));clear a6 a0 a1 a2 a3 a4;go_wp2;go_ret;exact ⟨retB (nmT_no hlt HX.out),rfl⟩
              · by_cases a5:s[k].toNat≤57
                · skip
                  have q0:decide ((97:Int)≤(s[k].toNat:Int))=false:=decide_eq_false (by omega);have q1:decide ((65:Int)≤(s[k].toNat:Int))=true:=decide_eq_true (by omega);have q2:decide ((s[k].toNat:Int)≤90)=false:=decide_eq_false (by omega);have q3:((k:Int)==0)=false:=by first|(rw [beq_iff_eq];omega)|(rw [beq_eq_false_iff_ne];omega)
                  have q4:((k:Int) != 0)=true:=by first|(rw [bne_iff_ne];omega)|(rw [bne_eq_false_iff_eq];omega)
                  have q5:((s[k].toNat:Int)==95)=false:=by first|(rw [beq_iff_eq];omega)|(rw [beq_eq_false_iff_ne];omega)
                  have q6:((s[k].toNat:Int) != 95)=true:=by first|(rw [bne_iff_ne];omega)|(rw [bne_eq_false_iff_eq];omega)
                  have q7:decide ((s[k].toNat:Int)<48)=false:=decide_eq_false (by omega);have q8:decide ((57:Int)<(s[k].toNat:Int))=false:=decide_eq_false (by omega);have HX:Hid (nmB k (byteAt s k)=true):=Lib.hid ((nmB_iff _ _).2 (by rw [HB.out];omega));clear a6 a0 a1 a2 a3 a4 a5;go_wp2;go_round
                  case rel=>exact ⟨k+1,by omega,by go_num,HOK.out.snoc HX.out⟩
                  case measure=>simp [intOf];omega
                · skip
                  have q0:decide ((97:Int)≤(s[k].toNat:Int))=false:=decide_eq_false (by omega);have q1:decide ((65:Int)≤(s[k].toNat:Int))=true:=decide_eq_true (by omega);have q2:decide ((s[k].toNat:Int)≤90)=false:=decide_eq_false (by omega);have q3:((k:Int)==0)=false:=by first|(rw [beq_iff_eq];omega)|(rw [beq_eq_false_iff_ne];omega)
                  have q4:((k:Int) != 0)=true:=by first|(rw [bne_iff_ne];omega)|(rw [bne_eq_false_iff_eq];omega)
                  have q5:((s[k].toNat:Int)==95)=false:=by first|(rw [beq_iff_eq];omega)|(rw [beq_eq_false_iff_ne];omega)
                  have q6:((s[k].toNat:Int) != 95)=true:=by first|(rw [bne_iff_ne];omega)|(rw [bne_eq_false_iff_eq];omega)
                  have q7:decide ((s[k].toNat:Int)<48)=false:=decide_eq_false (by omega);have q8:decide ((57:Int)<(s[k].toNat:Int))=true:=decide_eq_true (by omega);have HX:Hid (nmB k (byteAt s k)=false):=Lib.hid (nmB_no (by rw [HB.out];omega));clear a6 a0 a1 a2 a3 a4 a5;go_wp2;go_ret;exact ⟨retB (nmT_no hlt HX.out),rfl⟩
      · skip
        by_cases a2:k=0
        · have a3:=a2
          have q0:decide ((97:Int)≤(s[k].toNat:Int))=false:=decide_eq_false (by omega);have q1:decide ((65:Int)≤(s[k].toNat:Int))=false:=decide_eq_false (by omega);have q2:((k:Int)==0)=true:=by first|(rw [beq_iff_eq];omega)|(rw [beq_eq_false_iff_ne];omega)
          have q3:((k:Int) != 0)=false:=by first|(rw [bne_iff_ne];omega)|(rw [bne_eq_false_iff_eq];omega)
          have HX:Hid (nmB k (byteAt s k)=false):=Lib.hid (nmB_no (by rw [HB.out];omega));clear a0 a1 a2 a3;go_wp2;go_ret;exact ⟨retB (nmT_no hlt HX.out),rfl⟩
        · by_cases a3:s[k].toNat=95
          · skip
            have q0:decide ((97:Int)≤(s[k].toNat:Int))=false:=decide_eq_false (by omega);have q1:decide ((65:Int)≤(s[k].toNat:Int))=false:=decide_eq_false (by omega);have q2:((k:Int)==0)=false:=by first|(rw [beq_iff_eq];omega)|(rw [beq_eq_false_iff_ne];omega)
            have q3:((k:Int) != 0)=true:=by first|(rw [bne_iff_ne];omega)|(rw [bne_eq_false_iff_eq];omega)
            have q4:((s[k].toNat:Int)==95)=true:=by first|(rw [beq_iff_eq];omega)|(rw [beq_eq_false_iff_ne];omega)
            have q5:((s[k].toNat:Int) != 95)=false:=by first|(rw [bne_iff_ne];omega)|(rw [bne_eq_false_iff_eq];omega)
            have HX:Hid (nmB k (byteAt s k)=true):=Lib.hid ((nmB_iff _ _).2 (by rw [HB.out];omega));clear a0 a1 a2 a3;go_wp2;go_round
            case rel=>exact ⟨k+1,by omega,by go_num,HOK.out.snoc HX.out⟩
            case measure=>simp [intOf];omega
          · by_cases a4:s[k].toNat<48
            · skip
              have q0:decide ((97:Int)≤(s[k].toNat:Int))=false:=decide_eq_false (by omega);have q1:decide ((65:Int)≤(s[k].toNat:Int))=false:=decide_eq_false (by omega);have q2:((k:Int)==0)=false:=by first|(rw [beq_iff_eq];omega)|(rw [beq_eq_false_iff_ne];omega)
              have q3:((k:Int) != 0)=true:=by first|(rw [bne_iff_ne];omega)|(rw [bne_eq_false_iff_eq];omega)
              have q4:((s[k].toNat:Int)==95)=false:=by first|(rw [beq_iff_eq];omega)|(rw [beq_eq_false_iff_ne];omega)
              have q5:((s[k].toNat:Int) != 95)=true:=by first|(rw [bne_iff_ne];omega)|(rw [bne_eq_false_iff_eq];omega)
              have q6:decide ((s[k].toNat:Int)<48)=true:=decide_eq_true (by omega);have HX:Hid (nmB k (byteAt s k)=false):=Lib.hid (nmB_no (by rw [HB.out];omega));clear a0 a1 a2 a3 a4;go_wp2;go_ret;exact ⟨retB (nmT_no hlt HX.out),rfl⟩
            · by_cases a5:s[k].toNat≤57
              · skip
                have q0:decide ((97:Int)≤(s[k].toNat:Int))=false:=decide_eq_false (by omega);have q1:decide ((65:Int)≤(s[k].toNat:Int))=false:=decide_eq_false (by omega);have q2:((k:Int)==0)=false:=by first|(rw [beq_iff_eq];omega)|(rw [beq_eq_false_iff_ne];omega)
                have q3:((k:Int) != 0)=true:=by first|(rw [bne_iff_ne];omega)|(rw [bne_eq_false_iff_eq];omega)
                have q4:((s[k].toNat:Int)==95)=false:=by first|(rw [beq_iff_eq];omega)|(rw [beq_eq_false_iff_ne];omega)
                have q5:((s[k].toNat:Int) != 95)=true:=by first|(rw [bne_iff_ne];omega)|(rw [bne_eq_false_iff_eq];omega)
                have q6:decide ((s[k].toNat:Int)<48)=false:=decide_eq_false (by omega);have q7:decide ((57:Int)<(s[k].toNat:Int))=false:=decide_eq_false (by omega);have HX:Hid (nmB k (byteAt s k)=true):=Lib.hid ((nmB_iff _ _).2 (by rw [HB.out];omega));clear a0 a1 a2 a3 a4 a5;go_wp2;go_round
                case rel=>exact ⟨k+1,by omega,by go_num,HOK.out.snoc HX.out⟩
                case measure=>simp [intOf];omega
              · skip
                have q0:decide ((97:Int)≤(s[k].toNat:Int))=false:=decide_eq_false (by omega);have q1:decide ((65:Int)≤(s[k].toNat:Int))=false:=decide_eq_false (by omega);have q2:((k:Int)==0)=false:=by first|(rw [beq_iff_eq];omega)|(rw [beq_eq_false_iff_ne];omega)
                have q3:((k:Int) != 0)=true:=by first|(rw [bne_iff_ne];omega)|(rw [bne_eq_false_iff_eq];omega)
                have q4:((s[k].toNat:Int)==95)=false:=by first|(rw [beq_iff_eq];omega)|(rw [beq_eq_false_iff_ne];omega)
                have q5:((s[k].toNat:Int) != 95)=true:=by first|(rw [bne_iff_ne];omega)|(rw [bne_eq_false_iff_eq];omega)
                have q6:decide ((s[k].toNat:Int)<48)=false:=decide_eq_false (by omega);have q7:decide ((57:Int)<(s[k].toNat:Int))=true:=decide_eq_true (by omega);have HX:Hid (nmB k (byteAt s k)=false):=Lib.hid (nmB_no (by rw [HB.out];omega));clear a0 a1 a2 a3 a4 a5;go_wp2;go_ret;exact ⟨retB (nmT_no hlt HX.out),rfl⟩
  · obtain rfl:k=s.size:=by omega
    have hS:=nmS_ne HOK.out H0.out;have HS:=Lib.hid hS;clear hS;go_wp2;go_ret;exact ⟨retB (by rw [HS.out];first|rfl|(rw [decide_eq_decide];omega)|simp),rfl⟩
end Go.Proofs.YtiacajjpkncomaaGreatDoor
