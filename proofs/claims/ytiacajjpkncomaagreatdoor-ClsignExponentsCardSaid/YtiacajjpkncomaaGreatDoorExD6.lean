/- The law file's Few of a tape (dominolaw06), as in Dd. -/
import Derived.Test.YtiacajjpkncomaaGreatDoorExHo
namespace Go.Proofs.YtiacajjpkncomaaGreatDoor
open Go.RowKit
set_option maxRecDepth 100000
set_option linter.unusedVariables false
set_option maxHeartbeats 4000000
def Few6P (vals:List ByteArray) (seed:ByteArray) (z:Int):Prop:=vals.length≤40∧(∀ j,j<vals.length→(vals.getD j ByteArray.empty).size≤140)∧seed.size≤100
def few6Res (vals:List ByteArray) (seed:ByteArray) (z:Int) (e:Ending):Prop :=
 ∃ b,e=.returned (.bool b)∧(b=true↔Few6P vals seed z)
theorem law06_Few (vals:List ByteArray) (A:Option Addr) (n c b:Nat) (seed:ByteArray) (z:Int) (w:World) (hn:vals.length=n) (hm:n≤maxLen) (h:SLs w b A vals) (hb:b≤w.heap.size) :
  Calls Tryz.prog 5 #[.agg #[.slice A n c,.string seed,.int .i64 z]] w fun e w'=>few6Res vals seed z e∧Below w.heap.size w w':=by
 have HS:=Lib.hid (h.next hb ((Below.refl w.heap.size w).alloc (Nat.le_refl _) (.cells #[.slice A n c,.string seed,.int .i64 z] 39)));have HN:=Lib.hid hn;unfold maxLen at hm;clear h hn
 go_enter Tryz.func5, Tryz.ntmps5
 go_wp2;go_loop [3] (fun v=>∃ k:Nat,v=.int .i64 k∧k≤n∧k≤40∧∀ j,j<k→(vals.getD j ByteArray.empty).size≤140) (fun v=>n-(intOf v).toNat)
 case atStart=>exact ⟨0,rfl,Nat.zero_le _,by decide,fun j h=>absurd h (Nat.not_lt_zero _)⟩
 case round =>
  obtain ⟨k,rfl,hk,hk2,hall⟩:=hrel;have HA:=Lib.hid hall;clear hall;by_cases hlt:k<n∧k<40
  · obtain ⟨ad,rfl,hc⟩:=HS.out.at_ (k:=k) (by rw [HN.out];exact hlt.1)
    obtain ⟨x,hx⟩:∃ x,vals.getD k ByteArray.empty=x:=⟨_,rfl⟩;rw [hx] at hc;have HX:=Lib.hid hx;have k1:decide (k<n)=true:=decide_eq_true hlt.1;have k2:decide ((k:Int)<40)=true:=decide_eq_true (by omega);have HLT:=Lib.hid hlt;have hkn:=hlt.1;clear hx hlt;by_cases h8:x.size≤140
    · have k3:decide ((140:Int)<(x.size:Int))=false:=decide_eq_false (by omega)
      have H8:=Lib.hid h8;clear h8;go_wp2;go_round
      case rel=>exact ⟨k+1,by go_num,HLT.out.1,HLT.out.2,fun j hj=>by
       by_cases e:j=k
       · subst e;rw [HX.out];exact H8.out
       · exact HA.out j (by omega)⟩
      case measure=>have:=HLT.out.1;simp [intOf];omega
    · have k3:decide ((140:Int)<(x.size:Int))=true:=decide_eq_true (by omega)
      have H8:=Lib.hid h8;clear h8;go_wp2;go_ret;exact ⟨⟨false,rfl,fun h=>(by cases h),fun h=>absurd (HX.out ▸ h.2.1 k (by rw [HN.out];exact HLT.out.1)) H8.out⟩,(Below.refl _ _).alloc (Nat.le_refl _) _⟩
  · have HLT:=Lib.hid hlt
    by_cases h40:n≤40
    · have hkn:k=n:=by omega
      have k1:decide (k<n)=false:=decide_eq_false (by omega);have k4:decide ((n:Int)≤40)=true:=decide_eq_true (by omega);have HKN:=Lib.hid hkn;have H40:=Lib.hid h40;clear hlt hkn h40;by_cases hs:seed.size≤100
      · have k5:decide ((seed.size:Int)≤100)=true:=decide_eq_true (by omega)
        have HSZ:=Lib.hid hs;clear hs;go_wp2;go_ret;exact ⟨⟨_,rfl,fun h=>⟨by rw [HN.out];exact H40.out,fun j hj=>HA.out j (by rw [HKN.out,← HN.out];exact hj),HSZ.out⟩,fun h=>rfl⟩,(Below.refl _ _).alloc (Nat.le_refl _) _⟩
      · have k5:decide ((seed.size:Int)≤100)=false:=decide_eq_false (by omega)
        have HSZ:=Lib.hid hs;clear hs;go_wp2;go_ret;exact ⟨⟨false,rfl,fun h=>(by cases h),fun h=>absurd h.2.2 HSZ.out⟩,(Below.refl _ _).alloc (Nat.le_refl _) _⟩
    · have k4:decide ((n:Int)≤40)=false:=decide_eq_false (by omega)
      have H40:=Lib.hid h40;by_cases hkn:k<n
      · have k1:decide (k<n)=true:=decide_eq_true (by omega)
        have k2:decide ((k:Int)<40)=false:=decide_eq_false (by omega);clear hlt h40 hkn;go_wp2;go_ret;exact ⟨⟨false,rfl,fun h=>(by cases h),fun h=>absurd (HN.out ▸ h.1) H40.out⟩,(Below.refl _ _).alloc (Nat.le_refl _) _⟩
      · have k1:decide (k<n)=false:=decide_eq_false (by omega)
        clear hlt h40 hkn;go_wp2;go_ret;exact ⟨⟨false,rfl,fun h=>(by cases h),fun h=>absurd (HN.out ▸ h.1) H40.out⟩,(Below.refl _ _).alloc (Nat.le_refl _) _⟩
theorem few6_is (vals:List ByteArray) (A:Option Addr) (n c b:Nat) (seed:ByteArray) (z:Int) (w:World) (hn:vals.length=n) (hm:n≤maxLen) (h:SLs w b A vals) (hb:b≤w.heap.size) (B:Bool) (hB:B=true↔Few6P vals seed z) :
  Calls Tryz.prog 5 #[.agg #[.slice A n c,.string seed,.int .i64 z]] w fun e w'=>e=.returned (.bool B)∧Below w.heap.size w w':=by
 refine (law06_Few vals A n c b seed z w hn hm h hb).mono ?_;rintro e w' ⟨⟨b',rfl,hb'⟩,hbl⟩
 have:b'=B:=by
  cases b'<;>cases B
  · rfl
  · exact absurd (hb'.2 (hB.1 rfl)) (by decide)
  · exact absurd (hB.2 (hb'.1 rfl)) (by decide)
  · rfl
 rw [this];exact ⟨rfl,hbl⟩
end Go.Proofs.YtiacajjpkncomaaGreatDoor
