/- The walks of the reference: bases and the error of a key (package 29). -/
import Derived.Test.YtjkccbpmlapgcaaGreatDoorMvJ9
import Derived.Test.YtjkccbpmlapgcaaGreatDoorMvSm1
import Derived.Test.YtjkccbpmlapgcaaGreatDoorMvJ5
import Derived.Deep.RegionHeld3
import Derived.IntWalk
namespace Go.Proofs.YtjkccbpmlapgcaaGreatDoor
open Go.RowKit
set_option maxRecDepth 100000
set_option linter.unusedVariables false
set_option maxHeartbeats 4000000
def sliOut (ls : List ByteArray) (e : Ending) (w' : World) : Prop:=∃ A' c',e=.returned (.slice A' ls.length c')∧SLs w' w'.heap.size A' ls
theorem r29_Bases (nm m o z s u h : ByteArray) (A : Option Addr) (n c : Nat) (rs : List ByteArray) (w : World) (hn : rs.length=n) (hm : n≤1000) (hs : SLs w w.heap.size A rs) :
  Calls Tryz.prog 52 #[.agg #[.string nm,.string m,.string o,.string z,.string s,.slice A n c,.string u,.string h]] w fun e w'=>sliOut (z::u::h::rs) e w'∧Below w.heap.size w w':=by
 have hb0 : Below w.heap.size w (w.alloc (.cells #[.string nm,.string m,.string o,.string z,.string s,.slice A n c,.string u,.string h] 33)):=(Below.refl _ _).alloc (Nat.le_refl _) _
 have hrow:=(hs.to hb0)
 have hown:=OwnS.lit (w.alloc (.cells #[.string nm,.string m,.string o,.string z,.string s,.slice A n c,.string u,.string h] 33)) (w.heap.size+1) [z,u,h] 3 (by simp) rfl (by omega)
 have hrow2:=hrow.to ((Below.refl _ _).alloc (Nat.le_refl _) (.cells ([z,u,h].map Value.string).toArray 22))
 have HB0:=Lib.hid (hb0.alloc hb0.size (.cells #[.string z,.string u,.string h] 22))
 rw [World.size_alloc] at hown
 have HOW:=Lib.hid hown
 have HR:=Lib.hid hrow2
 have HN:=Lib.hid hn
 have HM:=Lib.hid hm
 clear hb0 hrow hown hrow2 hs hn
 go_enter Tryz.func52, Tryz.ntmps52
 go_wp2_with (at_builtin;refine wpList_append_S rfl (.tmp 11) (.tmp 13) rfl (w.heap.size+1) (.slice (some ⟨w.heap.size+1,0,none⟩) 3 3) 3 [z,u,h] rfl HOW.out A n c rs rfl HR.out HN.out (by have:=HM.out;omega) (by simp) ?_
              intro v' w5 hown5 hg5 _
              have hb5:=below_grown hg5 (by simp : w.heap.size+1≤_) (fun k hk=>(HOW.out.blockOf k hk).1)
              obtain ⟨A5,c5,rfl,hs5⟩:=hown5.form (Nat.le_trans (by simp) hb5.size)
              have HS5:=Lib.hid hs5
              have HB5:=Lib.hid hb5
              clear hown5 hg5 hs5 hb5)
 go_ret
 have hln : (z::u::h::rs).length=3+n:=by simp only [List.length_cons,HN.out];omega
 refine ⟨⟨A5,c5,by rw [hln];rfl,HS5.out⟩,HB0.out.trans (HB5.out.mono (by simp))⟩
theorem PkAt.drew {w : World} {cs ks : Array Value} {A A2 : Option Addr} {rs ats : List ByteArray} {W : World} (k : PkAt w cs ks A A2 rs ats W) : PkAt w cs ks A A2 rs ats W.drew:=k.next (Below.refl _ _).drew
theorem PkAt.nextB {w : World} {cs ks : Array Value} {A A2 : Option Addr} {rs ats : List ByteArray} {W W' : World} (k : PkAt w cs ks A A2 rs ats W) {Bx : Nat} (hb : Below Bx W W') (hB : w.heap.size+2≤Bx) : PkAt w cs ks A A2 rs ats W' :=
 ⟨(hb.block _ (by omega)).trans k.par,(hb.block _ (by omega)).trans k.key,k.row.next (by omega : w.heap.size≤Bx) hb,k.att.next (by omega : w.heap.size≤Bx) hb,k.bel.trans (hb.mono (by omega))⟩
theorem step_append_own {w : World} {ops : Array Oper} {o : Oper} {a : Act} {K : Act→World→Prop} {Q : Exit→Act→World→Prop} {E : Prop} (hgd : o.guard=none) (s x : Operand)
  (ho : o.op=.call { callee:=.builtin .append,args:=#[s,x],argTypes:=#[31,31] })
  (base : Nat) (v : Value) (n : Nat) (ls : List ByteArray) (hs : a.eval s=v) (hown : OwnS w base v n ls)
  (A : Option Addr) (m c : Nat) (N : List ByteArray) (hx : a.eval x=.slice A m c) (hN : SLs w w.heap.size A N) (hm : N.length=m) (hsz : n+m≤100000) (hbase : base≤w.heap.size)
  (h : ∀ v' w',OwnS w' base v' (n+m) (ls++N)→Below base w w'→K (a.put o.dst v') w') :
  if Region.wanted o (yielded ops a.tmps)=true then Oper.wp Tryz.prog o a w K Q else E:=by
 obtain ⟨i,hi,hz,hs1,hb1⟩:=nat_infoE
 refine step_append_any w hgd s x 31 ho base 22 i (.string ByteArray.empty) 1 16 Tryz.underlying31 hi hz hs1 hb1 rfl (by decide) v n (ls.map Value.string) hs hown.2 w.heap.size A m c (N.map Value.string) hx (hN.reads hm) (strs_one N) (by unfold maxLen;omega) (by omega) hbase ?_
 intro v' w' h2 h3 _
 exact h v' w' ⟨by rw [List.length_append,hown.1,hm],by rw [List.map_append];exact h2⟩ (below_grown h3 hbase fun k hk=>(hown.blockOf k hk).1)
theorem PkAt.kc {w : World} {cs : Array Value} {nm m o z s u h r : Value} {A A2 : Option Addr} {rs ats : List ByteArray} {W : World} (k : PkAt w cs #[nm,m,o,z,s,r,u,h] A A2 rs ats W) :
  W.cell? ⟨w.heap.size+1,0,none⟩=some nm∧W.cell? ⟨w.heap.size+1,1,none⟩=some m∧W.cell? ⟨w.heap.size+1,2,none⟩=some o∧W.cell? ⟨w.heap.size+1,3,none⟩=some z∧W.cell? ⟨w.heap.size+1,4,none⟩=some s∧W.cell? ⟨w.heap.size+1,5,none⟩=some r∧W.cell? ⟨w.heap.size+1,6,none⟩=some u∧W.cell? ⟨w.heap.size+1,7,none⟩=some h:=by
 refine ⟨?_,?_,?_,?_,?_,?_,?_,?_⟩<;>simp [World.cell?,k.key]
theorem list_all_take {p : ByteArray→Bool} {ls : List ByteArray} (h : ∀ j,j < ls.length→p (ls.getD j ByteArray.empty)=true) : ls.all p=true:=by
 rw [List.all_eq_true]
 intro x hx
 obtain ⟨j,hj,rfl⟩:=List.getElem_of_mem hx
 have:=h j hj
 rwa [sgetD_lt hj] at this
theorem r29_Check (P : Int) (ch sl mm mo mg mh wm wo wg wh se at_ ha el es bl ma nm m o z s u h : ByteArray) (A : Option Addr) (n c : Nat) (rs : List ByteArray) (w : World) (sm : m.size≤8) (snm : nm.size≤100000) (hn : rs.length=n) (hm : n≤1000) (hs : SLs w w.heap.size A rs)
  (hP : ∀ wq,Below w.heap.size w wq→Calls Tryz.prog 51 #[.agg #[.string ch,.string sl,.string mm,.string mo,.string mg,.string mh,.string wm,.string wo,.string wg,.string wh,.string se,.string at_,.string ha,.string el,.string es,.string bl,.string ma]] wq fun e w'=>e=.returned (.int .i64 P)∧Below wq.heap.size wq w') :
  Calls Tryz.prog 22 #[.agg #[.string ch,.string sl,.string mm,.string mo,.string mg,.string mh,.string wm,.string wo,.string wg,.string wh,.string se,.string at_,.string ha,.string el,.string es,.string bl,.string ma],
   .agg #[.string nm,.string m,.string o,.string z,.string s,.slice A n c,.string u,.string h]] w fun e w'=>e=.returned (.int .i64 (keyE P nm m o z s u h rs))∧Below w.heap.size w w':=by
 have HS0:=PkAt.start w #[.string ch,.string sl,.string mm,.string mo,.string mg,.string mh,.string wm,.string wo,.string wg,.string wh,.string se,.string at_,.string ha,.string el,.string es,.string bl,.string ma] #[.string nm,.string m,.string o,.string z,.string s,.slice A n c,.string u,.string h] A A rs rs hs hs
 have HKP:=Lib.hid hP
 have KB:=Lib.hid (fun (wq : World) (h1 : SLs wq w.heap.size A rs) (h2 : w.heap.size≤wq.heap.size)=>r29_Bases nm m o z s u h A n c rs wq hn hm (h1.more h2))
 obtain ⟨W0,hW0⟩ : ∃ W0,(w.alloc (.cells #[.string ch,.string sl,.string mm,.string mo,.string mg,.string mh,.string wm,.string wo,.string wg,.string wh,.string se,.string at_,.string ha,.string el,.string es,.string bl,.string ma] 30)).alloc (.cells #[.string nm,.string m,.string o,.string z,.string s,.slice A n c,.string u,.string h] 33)=W0:=⟨_,rfl⟩
 rw [hW0] at HS0
 have HS:=Lib.hid HS0
 have HN:=Lib.hid hn
 have HM:=Lib.hid hm
 clear HS0 hs hP hn hm
 by_cases h0 : P=0
 · subst h0
   obtain ⟨q,hq⟩ : ∃ q,6+n=q:=⟨_,rfl⟩
   have HQ:=Lib.hid hq
   clear hq
   go_enter Tryz.func22, Tryz.ntmps22
   go_upto_region 4 with (first
    | (refine wpList_load_row rfl 30 _ rfl _ rfl 30 _ (0,0) _ HS.out.par Tryz.underlying30 rfl (info17'.trans rfl) ?_)
    | (go_at_call 51;(with_reducible refine (HKP.out _ HS.out.bel).mono ?_);rintro e w1 ⟨rfl,hb1⟩;have HS1:=Lib.hid (HS.out.next hb1);clear hb1))
   go_cut [6] (fun a wx=>∃ A5 c5,a=.slice A5 q c5∧SLs wx wx.heap.size A5 (m::o::s::z::u::h::rs)∧PkAt w #[.string ch,.string sl,.string mm,.string mo,.string mg,.string mh,.string wm,.string wo,.string wg,.string wh,.string se,.string at_,.string ha,.string el,.string es,.string bl,.string ma] #[.string nm,.string m,.string o,.string z,.string s,.slice A n c,.string u,.string h] A A rs rs wx)
   case first =>
    have HSA:=Lib.hid (HS1.out.next ((Below.refl _ _).alloc (Nat.le_refl _) (.cells #[.string m,.string o,.string s] 22)))
    have HOA0:=Lib.hid (OwnS.lit w1 (w.heap.size+2) [m,o,s] 3 HS1.out.lt rfl (by omega))
    obtain ⟨k0,k1,k2,k3,k4,k5,k6,k7⟩:=HS1.out.kc
    go_region_held3 (fun w'=>w'.cell? ⟨w.heap.size+1,0,none⟩=some (.string nm)∧w'.cell? ⟨w.heap.size+1,1,none⟩=some (.string m)∧w'.cell? ⟨w.heap.size+1,2,none⟩=some (.string o)∧w'.cell? ⟨w.heap.size+1,3,none⟩=some (.string z)∧w'.cell? ⟨w.heap.size+1,4,none⟩=some (.string s)∧w'.cell? ⟨w.heap.size+1,5,none⟩=some (.slice A n c)∧w'.cell? ⟨w.heap.size+1,6,none⟩=some (.string u)∧w'.cell? ⟨w.heap.size+1,7,none⟩=some (.string h))
     (first | (with_reducible exact ⟨k0,k1,k2,k3,k4,k5,k6,k7⟩) | go_keep)
     (first
      | (go_at_call 52;(with_reducible refine (KB.out _ (by first | exact HS1.out.row | exact HS1.out.drew.row | exact HSA.out.row | exact HSA.out.drew.row) (by first | exact HS1.out.bel.size | exact HS1.out.drew.bel.size | exact HSA.out.bel.size | exact HSA.out.drew.bel.size)).mono ?_);rintro e w2 ⟨⟨A',c',rfl,hsb⟩,hb2⟩
         have n2 : PkAt w #[.string ch,.string sl,.string mm,.string mo,.string mg,.string mh,.string wm,.string wo,.string wg,.string wh,.string se,.string at_,.string ha,.string el,.string es,.string bl,.string ma] #[.string nm,.string m,.string o,.string z,.string s,.slice A n c,.string u,.string h] A A rs rs w2:=by { first | exact HS1.out.next hb2 | exact HS1.out.drew.next hb2 | exact HSA.out.next hb2 | exact HSA.out.drew.next hb2 }
         have HS2:=Lib.hid n2
         have HSB:=Lib.hid hsb
         have HB2:=Lib.hid hb2
         obtain ⟨k0,k1,k2,k3,k4,k5,k6,k7⟩:=n2.kc
         clear n2 hsb hb2)
      | (refine step_append_own (by rfl) _ _ (by rfl) (w.heap.size+2) (.slice (some ⟨w1.heap.size,0,none⟩) 3 3) 3 [m,o,s] (by rfl) (by first | exact HOA0.out.kept (B:=0) HB2.out | exact OwnS.kept (B:=0) (w:=(w1.alloc (.cells #[.string m,.string o,.string s] 22)).drew) HOA0.out HB2.out) A' _ c' (z::u::h::rs) (by rfl) HSB.out rfl (by simp only [List.length_cons,HN.out];have:=HM.out;omega) (by have:=HS2.out.lt;omega) ?_
         intro v5 w5 hown5 hb5
         have HO5:=Lib.hid hown5
         have HS5:=Lib.hid (HS2.out.nextB hb5 (Nat.le_refl _))
         obtain ⟨k0,k1,k2,k3,k4,k5,k6,k7⟩:=HS5.out.kc
         clear hown5 hb5)
      | (refine step_append_own (by rfl) _ _ (by rfl) (w.heap.size+2) (.slice (some ⟨w2.heap.size,0,none⟩) 3 3) 3 [m,o,s] (by rfl) (OwnS.lit w2 (w.heap.size+2) [m,o,s] 3 HS2.out.lt rfl (by omega)) A' _ c' (z::u::h::rs) (by rfl) (HSB.out.to ((Below.refl _ _).alloc (Nat.le_refl _) _)) rfl (by simp only [List.length_cons,HN.out];have:=HM.out;omega) (by have:=HS2.out.lt;simp;omega) ?_
         intro v5 w5 hown5 hb5
         have HO5:=Lib.hid hown5
         have HS5:=Lib.hid ((HS2.out.next ((Below.refl _ _).alloc (Nat.le_refl _) _)).nextB hb5 (Nat.le_refl _))
         obtain ⟨k0,k1,k2,k3,k4,k5,k6,k7⟩:=HS5.out.kc
         clear hown5 hb5))
    all_goals
     obtain ⟨A6,c6,hv6,hs6⟩:=HO5.out.form (by have:=HS5.out.lt;omega)
     have hln : 3+(z::u::h::rs).length=q:=by rw [← HQ.out];simp only [List.length_cons,HN.out];omega
     rw [hln] at hv6
     go_wp2_with fail
     go_meet
     exact ⟨A6,c6,hv6,hs6,HS5.out⟩
   case rest =>
    obtain ⟨A6,c6,rfl,hsl,hpk⟩:=hcut
    have HSL:=Lib.hid hsl
    have HC:=Lib.hid hpk
    obtain ⟨LL,hLL⟩ : ∃ LL,m::o::s::z::u::h::rs=LL:=⟨_,rfl⟩
    have HLN : Hid (LL.length=q):=Lib.hid (by rw [← hLL,← HQ.out];simp only [List.length_cons,HN.out];omega)
    have HLL:=Lib.hid hLL
    rw [hLL] at HSL
    clear hsl hpk KB HKP hLL
    have KV:=Lib.hid (fun x w=>r01_Valid x w)
    have hq1 : q≤2000:=by have:=HM.out;have:=HQ.out;omega
    go_wp2
    go_loop [7] (fun i=>∃ k : Nat,k≤q∧i=.int .i64 k∧(∀ j,j < k→valid (LL.getD j ByteArray.empty)=true)) (fun i=>q - (intOf i).toNat)
    case atStart=>exact ⟨0,Nat.zero_le _,rfl,fun j hj=>absurd hj (Nat.not_lt_zero j)⟩
    case round =>
     obtain ⟨k,hk,rfl,hall⟩:=hrel
     have HALL:=Lib.hid hall
     clear hall
     by_cases hlt : k < q
     · obtain ⟨ad,rfl,hc⟩:=HSL.out.at_ (k:=k) (by rw [HLN.out];exact hlt)
       obtain ⟨x,hx⟩ : ∃ x,LL.getD k ByteArray.empty=x:=⟨_,rfl⟩
       rw [hx] at hc
       have KVx:=KV.out x
       cases hv : valid x
       · rw [hv] at KVx
         have KX:=Lib.hid KVx
         have HE : Hid (keyE 0 nm m o z s u h rs=3):=Lib.hid (keyE_form (by
          have : m::o::s::z::u::h::rs=LL:=HLL.out
          rw [this,List.all_eq_false]
          refine ⟨x,?_,by rw [hv];decide⟩
          rw [← hx,sgetD_lt (by rw [HLN.out];exact hlt)]
          exact List.getElem_mem _))
         clear hv KVx hx hk
         go_wp2_with (go_at_call 53;(with_reducible refine (KX.out _).mono ?_);rintro e w5 ⟨rfl,rfl⟩)
         go_ret
         exact ⟨by rw [HE.out];rfl,HC.out.bel⟩
       · rw [hv] at KVx
         have KX:=Lib.hid KVx
         have HX : Hid (valid (LL.getD k ByteArray.empty)=true):=Lib.hid (by rw [hx];exact hv)
         have HLT:=Lib.hid hlt
         clear hv KVx hx hk
         go_wp2_with (go_at_call 53;(with_reducible refine (KX.out _).mono ?_);rintro e w5 ⟨rfl,rfl⟩)
         go_round
         case rel=>exact ⟨k+1,HLT.out,by go_num,fun j hj=>by
          rcases Nat.lt_or_ge j k with h1 | h1
          · exact HALL.out j h1
          · obtain rfl : j=k:=by omega
            exact HX.out⟩
         case measure=>have:=HLT.out;simp [intOf];omega
     · obtain rfl : k=q:=by omega
       have hva : (m::o::s::z::u::h::rs).all valid=true:=by
        have : m::o::s::z::u::h::rs=LL:=HLL.out
        rw [this]
        exact list_all_take (fun j hj=>HALL.out j (by rw [HLN.out] at hj;exact hj))
       have HE:=Lib.hid (keyE_ok (nm:=nm) hva)
       have KNm:=Lib.hid (fun w=>r29_Name nm w snm)
       have KG:=Lib.hid (fun w=>r13_Check m o w sm)
       have KH:=Lib.hid (fun x w=>r13_Has m o x w sm)
       obtain ⟨k0,k1,k2,k3,k4,k5,k6,k7⟩:=HC.out.kc
       clear hva hlt hk HALL
       cases hnm : nmS nm
       · rw [hnm] at KNm
         have HE2 : Hid (keyE 0 nm m o z s u h rs=1):=Lib.hid (by rw [HE.out,if_neg (by rw [hnm];decide)])
         clear hnm
         go_wp2_with (go_at_call 54;(with_reducible refine (KNm.out _).mono ?_);rintro e w2 ⟨rfl,rfl⟩)
         go_ret
         exact ⟨by rw [HE2.out];rfl,HC.out.bel⟩
       · rw [hnm] at KNm
         have HE2:=Lib.hid (HE.out.trans (if_pos hnm))
         clear hnm
         cases ho : o.toList.isEmpty
         · have HE3 : Hid (keyE 0 nm m o z s u h rs=13):=Lib.hid (by rw [HE2.out,if_neg (fun hh=>by rw [ho] at hh;exact absurd hh.1 (by decide))])
           go_wp2_with (go_at_call 54;(with_reducible refine (KNm.out _).mono ?_);rintro e w2 ⟨rfl,rfl⟩)
           go_ret
           exact ⟨by rw [HE3.out];rfl,HC.out.bel⟩
         · obtain ⟨G,hG⟩ : ∃ G,groupE m o=G:=⟨_,rfl⟩
           rw [hG] at KG
           by_cases hg : G=0
           · subst hg
             have HE3:=Lib.hid (HE2.out.trans (if_pos ⟨ho,hG⟩))
             rw [hG] at KH
             have hn:=HN.out
             clear hG
             by_cases h2 : n < 2
             · have HE4 : Hid (keyE 0 nm m o z s u h rs=6):=Lib.hid (by rw [HE3.out,if_neg (by omega)])
               have p1 : decide ((n : Int) < 2)=true:=decide_eq_true (by omega)
               clear hn h2
               go_wp2_with (first
                | (go_at_call 54;(with_reducible refine (KNm.out _).mono ?_);rintro e w2 ⟨rfl,rfl⟩)
                | (go_at_call 55;(with_reducible refine (KG.out _).mono ?_);rintro e w3 ⟨rfl,hb3⟩;have HC3:=Lib.hid (HC.out.next hb3);obtain ⟨k0,k1,k2,k3,k4,k5,k6,k7⟩:=HC3.out.kc;clear hb3))
               go_ret
               exact ⟨by rw [HE4.out];rfl,HC3.out.bel⟩
             by_cases h18 : 18 < n
             · have HE4 : Hid (keyE 0 nm m o z s u h rs=6):=Lib.hid (by rw [HE3.out,if_neg (by omega)])
               have p1 : decide ((n : Int) < 2)=false:=decide_eq_false (by omega)
               have p2 : decide ((18 : Int) < (n : Int))=true:=decide_eq_true (by omega)
               clear hn h2 h18
               go_wp2_with (first
                | (go_at_call 54;(with_reducible refine (KNm.out _).mono ?_);rintro e w2 ⟨rfl,rfl⟩)
                | (go_at_call 55;(with_reducible refine (KG.out _).mono ?_);rintro e w3 ⟨rfl,hb3⟩;have HC3:=Lib.hid (HC.out.next hb3);obtain ⟨k0,k1,k2,k3,k4,k5,k6,k7⟩:=HC3.out.kc;clear hb3))
               go_ret
               exact ⟨by rw [HE4.out];rfl,HC3.out.bel⟩
             have HE4:=Lib.hid (HE3.out.trans (if_pos (by omega)))
             have p1 : decide ((n : Int) < 2)=false:=decide_eq_false (by omega)
             have p2 : decide ((18 : Int) < (n : Int))=false:=decide_eq_false (by omega)
             have hone : (s.toList==(B 1).toList)=(s.toList==[1]):=by rw [show (B 1).toList=[1] by decide +kernel]
             rw [hone] at HE4
             clear hn h2 h18 hone
             cases h1 : s.toList==[1]
             · rw [h1] at HE4
               go_wp2_with (first
                | (go_at_call 54;(with_reducible refine (KNm.out _).mono ?_);rintro e w2 ⟨rfl,rfl⟩)
                | (go_at_call 55;(with_reducible refine (KG.out _).mono ?_);rintro e w3 ⟨rfl,hb3⟩;have HC3:=Lib.hid (HC.out.next hb3);have HSL3:=Lib.hid (HSL.out.to hb3);obtain ⟨k0,k1,k2,k3,k4,k5,k6,k7⟩:=HC3.out.kc;clear hb3))
               go_loopw [8] (fun i wr=>∃ j : Nat,2≤j∧j≤k∧i=.int .i64 j∧(∀ t,2≤t→t < j→hasG m o (LL.getD t ByteArray.empty)=true)∧PkAt w #[.string ch,.string sl,.string mm,.string mo,.string mg,.string mh,.string wm,.string wo,.string wg,.string wh,.string se,.string at_,.string ha,.string el,.string es,.string bl,.string ma] #[.string nm,.string m,.string o,.string z,.string s,.slice A n c,.string u,.string h] A A rs rs wr∧SLs wr wr.heap.size A6 LL) (fun i _=>k - (intOf i).toNat)
               case atStart=>exact ⟨2,Nat.le_refl _,by have:=HQ.out;omega,rfl,fun t h1 h2=>absurd h2 (by omega),HC3.out,HSL3.out⟩
               case round =>
                obtain ⟨j,hj2,hj,rfl,hall,hpk,hsl⟩:=hrel
                have HALL:=Lib.hid hall
                have HP:=Lib.hid hpk
                have HSR:=Lib.hid hsl
                obtain ⟨k0,k1,k2,k3,k4,k5,k6,k7⟩:=hpk.kc
                clear hall hpk hsl
                by_cases hlj : j < k
                · obtain ⟨ad,rfl,hc⟩:=HSR.out.at_ (k:=j) (by rw [HLN.out];exact hlj)
                  obtain ⟨x,hx⟩ : ∃ x,LL.getD j ByteArray.empty=x:=⟨_,rfl⟩
                  rw [hx] at hc
                  have KHx:=KH.out x
                  have HX:=Lib.hid hx
                  have HLJ:=Lib.hid hlj
                  have HJ2:=Lib.hid hj2
                  have hw2 : wrap64 ((j : Int)+1)=(j : Int)+1:=IntWalk.wrap64_in _ (by omega)
                  clear hx hj
                  cases hh : hasG m o x
                  · rw [hh] at KHx
                    have KX:=Lib.hid KHx
                    have HE5 : Hid (keyE 0 nm m o z s u h rs=13):=Lib.hid (by
                     rw [HE4.out,if_neg]
                     intro hcon
                     rw [Bool.and_eq_true] at hcon
                     have h2:=List.all_eq_true.1 hcon.2 x (by
                      rw [← HX.out]
                      have hq2 : LL.getD j ByteArray.empty=(s::z::u::h::rs).getD (j - 2) ByteArray.empty:=by
                       rw [← HLL.out]
                       obtain ⟨t,rfl⟩ : ∃ t,j=t+2:=⟨j - 2,by omega⟩
                       rfl
                      rw [hq2,sgetD_lt (by have:=HLN.out;rw [← HLL.out] at this;simp only [List.length_cons] at this ⊢;omega)]
                      exact List.getElem_mem _)
                     rw [hh] at h2
                     exact absurd h2 (by decide))
                    clear hh KHx hlj hj2
                    go_upto_region 21 with fail
                    go_region_held3 (fun w'=>w'.cell? ⟨w.heap.size+1,1,none⟩=some (.string m)∧w'.cell? ⟨w.heap.size+1,2,none⟩=some (.string o)∧w'.cell? (ad.add j)=some (.string x)) (first | go_keep) (first
                     | (go_at_call 35;(with_reducible refine (KX.out _).mono ?_);rintro e w5 ⟨rfl,hb5⟩
                        have hc5:=((HSR.out.to (Below.refl _ _).drew).to hb5).at_ (k:=j) (by rw [HLN.out];exact HLJ.out)
                        have HC5:=Lib.hid ((HP.out.drew).next hb5)
                        obtain ⟨k0,k1,k2,k3,k4,k5,k6,k7⟩:=HC5.out.kc
                        obtain ⟨ad',ead,hc⟩:=hc5
                        cases ead
                        rw [HX.out] at hc
                        clear hb5))
                    all_goals
                     go_wp2_with fail
                     go_ret
                     exact ⟨by rw [HE5.out];rfl,HC5.out.bel⟩
                  · rw [hh] at KHx
                    have KX:=Lib.hid KHx
                    have HH:=Lib.hid hh
                    clear hh KHx hlj hj2
                    go_upto_region 21 with fail
                    go_region_held3 (fun w'=>w'.cell? ⟨w.heap.size+1,1,none⟩=some (.string m)∧w'.cell? ⟨w.heap.size+1,2,none⟩=some (.string o)∧w'.cell? (ad.add j)=some (.string x)) (first | go_keep) (first
                     | (go_at_call 35;(with_reducible refine (KX.out _).mono ?_);rintro e w5 ⟨rfl,hb5⟩
                        have HSR5:=Lib.hid ((HSR.out.to (Below.refl _ _).drew).to hb5)
                        have hc5:=HSR5.out.at_ (k:=j) (by rw [HLN.out];exact HLJ.out)
                        have HC5:=Lib.hid ((HP.out.drew).next hb5)
                        obtain ⟨k0,k1,k2,k3,k4,k5,k6,k7⟩:=HC5.out.kc
                        obtain ⟨ad',ead,hc⟩:=hc5
                        cases ead
                        rw [HX.out] at hc
                        clear hb5))
                    all_goals
                     go_wp2_with fail
                     go_roundw
                     case rel=>exact ⟨j+1,by have:=HJ2.out;omega,HLJ.out,by go_num,fun t h1 h2=>by
                      rcases Nat.lt_or_ge t j with h3 | h3
                      · exact HALL.out t h1 h3
                      · obtain rfl : t=j:=by omega
                        rw [HX.out];exact HH.out,HC5.out,HSR5.out⟩
                     case measure=>have:=HLJ.out;simp [intOf];omega
                · obtain rfl : j=k:=by omega
                  have HE5 : Hid (keyE 0 nm m o z s u h rs=0):=Lib.hid (by
                   rw [HE4.out,if_pos]
                   rw [Bool.and_eq_true]
                   refine ⟨rfl,list_all_take (fun t ht=>?_)⟩
                   have hq2 : LL.getD (t+2) ByteArray.empty=(s::z::u::h::rs).getD t ByteArray.empty:=by rw [← HLL.out];rfl
                   rw [← hq2]
                   exact HALL.out (t+2) (by omega) (by have:=HLN.out;rw [← HLL.out] at this;simp only [List.length_cons] at this ht;omega))
                  go_wp2
                  go_ret
                  exact ⟨by rw [HE5.out];rfl,HP.out.bel⟩
             · rw [h1] at HE4
               have HE5 : Hid (keyE 0 nm m o z s u h rs=13):=Lib.hid (HE4.out.trans (if_neg (by simp)))
               go_wp2_with (first
                | (go_at_call 54;(with_reducible refine (KNm.out _).mono ?_);rintro e w2 ⟨rfl,rfl⟩)
                | (go_at_call 55;(with_reducible refine (KG.out _).mono ?_);rintro e w3 ⟨rfl,hb3⟩;have HC3:=Lib.hid (HC.out.next hb3);obtain ⟨k0,k1,k2,k3,k4,k5,k6,k7⟩:=HC3.out.kc;clear hb3))
               go_ret
               exact ⟨by rw [HE5.out];rfl,HC3.out.bel⟩
           · have HE3 : Hid (keyE 0 nm m o z s u h rs=13):=Lib.hid (by rw [HE2.out,if_neg (fun hh=>hg (hG ▸ hh.2))])
             have p1 : (G != 0)=true:=by simpa using hg
             clear hG hg
             go_wp2_with (first
              | (go_at_call 54;(with_reducible refine (KNm.out _).mono ?_);rintro e w2 ⟨rfl,rfl⟩)
              | (go_at_call 55;(with_reducible refine (KG.out _).mono ?_);rintro e w3 ⟨rfl,hb3⟩;have HC3:=Lib.hid (HC.out.next hb3);obtain ⟨k0,k1,k2,k3,k4,k5,k6,k7⟩:=HC3.out.kc;clear hb3))
             go_ret
             exact ⟨by rw [HE3.out];rfl,HC3.out.bel⟩
 · have HE:=Lib.hid (keyE_par (nm:=nm) (m:=m) (o:=o) (z:=z) (s:=s) (u:=u) (h:=h) (rs:=rs) h0)
   have p1 : (P != 0)=true:=by simpa using h0
   clear h0
   go_enter Tryz.func22, Tryz.ntmps22
   go_wp2_with (first
    | (refine wpList_load_row rfl 30 _ rfl _ rfl 30 _ (0,0) _ HS.out.par Tryz.underlying30 rfl (info17'.trans rfl) ?_)
    | (go_at_call 51;(with_reducible refine (HKP.out _ HS.out.bel).mono ?_);rintro e w1 ⟨rfl,hb1⟩;have HS1:=Lib.hid (HS.out.next hb1);clear hb1))
   go_ret
   exact ⟨by rw [HE.out];rfl,HS1.out.bel⟩
end Go.Proofs.YtjkccbpmlapgcaaGreatDoor
