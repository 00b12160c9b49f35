/- The walks of the reference (package 30): canonical numbers, limits, the error of attributes; products of powers (package 13). -/
import Derived.Test.YtjkccbpmlapgcaaGreatDoorMvKj
import Derived.Test.YtjkccbpmlapgcaaGreatDoorMvJ6
namespace Go.Proofs.YtjkccbpmlapgcaaGreatDoor
open Go.RowKit
set_option maxRecDepth 100000
set_option linter.unusedVariables false
set_option maxHeartbeats 4000000
theorem r30_nats (ls : List ByteArray) (A : Option Addr) (n c b : Nat) (w : World) (hn : ls.length=n) (hm : n≤100000) (h : SLs w b A ls) :
  Calls Tryz.prog 23 #[.slice A n c] w fun e w'=>e=.returned (.bool (ls.all valid))∧w=w':=by
 have HN:=Lib.hid hn
 have HS:=Lib.hid h
 have KV:=Lib.hid (fun x w=>r01_Valid x w)
 clear hn h
 go_enter Tryz.func23, Tryz.ntmps23
 go_wp2
 go_loop [3] (fun v=>∃ k : Nat,k≤n∧v=.int .i64 k∧∀ j,j < k→valid (ls.getD j ByteArray.empty)=true) (fun v=>n - (intOf v).toNat)
 case atStart=>exact ⟨0,by omega,rfl,fun j h=>absurd h (by omega)⟩
 case round =>
  obtain ⟨k,hk,rfl,hall⟩:=hrel
  have HA:=Lib.hid hall
  clear hall
  by_cases hlt : k < n
  · obtain ⟨ad,rfl,hc⟩:=HS.out.at_ (k:=k) (by rw [HN.out];exact hlt)
    obtain ⟨s,hs⟩ : ∃ s,ls.getD k ByteArray.empty=s:=⟨_,rfl⟩
    rw [hs] at hc
    have KVx:=KV.out s
    cases hv : valid s
    · rw [hv] at KVx
      have KX:=Lib.hid KVx
      have HF : Hid (ls.all valid=false):=Lib.hid (by
       rw [List.all_eq_false]
       refine ⟨s,?_,by rw [hv];decide⟩
       rw [← hs,sgetD_lt (by rw [HN.out];exact hlt)]
       exact List.getElem_mem _)
      clear hv KVx hs
      go_wp2_with (go_at_call 53;(with_reducible refine (KX.out _).mono ?_);rintro e w' ⟨rfl,rfl⟩)
      go_ret
      exact ⟨by rw [HF.out];rfl,rfl⟩
    · rw [hv] at KVx
      have KX:=Lib.hid KVx
      have HX : Hid (valid (ls.getD k ByteArray.empty)=true):=Lib.hid (by rw [hs];exact hv)
      have HLT:=Lib.hid hlt
      clear hv KVx hs
      go_wp2_with (go_at_call 53;(with_reducible refine (KX.out _).mono ?_);rintro e w' ⟨rfl,rfl⟩)
      go_round
      case rel=>exact ⟨k+1,HLT.out,by go_num,fun j hj=>by
       rcases Nat.lt_or_ge j k with h1 | h1
       · exact HA.out j h1
       · obtain rfl : j=k:=by omega
         exact HX.out⟩
      case measure=>have:=HLT.out;simp [intOf];omega
  · obtain rfl : k=n:=by omega
    have HF : Hid (ls.all valid=true):=Lib.hid (list_all_take (fun j hj=>HA.out j (by rw [HN.out] at hj;exact hj)))
    go_wp2
    go_ret
    exact ⟨by rw [HF.out];rfl,rfl⟩
theorem r30_Limit (ch sl mm mo mg mh wm wo wg wh se at_ ha el es bl ma : ByteArray) (k : Nat) (w : World) :
  Calls Tryz.prog 56 #[.agg #[.string ch,.string sl,.string mm,.string mo,.string mg,.string mh,.string wm,.string wo,.string wg,.string wh,.string se,.string at_,.string ha,.string el,.string es,.string bl,.string ma],.int .i64 k] w fun e w'=>e=.returned (.string (limS se ha at_ k))∧Below w.heap.size w w':=by
 have HB : Hid (Below w.heap.size w (w.alloc (.cells #[.string ch,.string sl,.string mm,.string mo,.string mg,.string mh,.string wm,.string wo,.string wg,.string wh,.string se,.string at_,.string ha,.string el,.string es,.string bl,.string ma] 30))):=Lib.hid ((Below.refl _ _).alloc (Nat.le_refl _) _)
 unfold limS
 by_cases h0 : k=0
 · rw [if_pos h0]
   have p0 : ((k : Int)==0)=true:=by rw [beq_iff_eq];omega
   clear h0
   go_enter Tryz.func56, Tryz.ntmps56
   go_wp2
   go_ret
   exact ⟨rfl,HB.out⟩
 · rw [if_neg h0]
   have p0 : ((k : Int)==0)=false:=by rw [beq_eq_false_iff_ne];omega
   by_cases h1 : k=1
   · rw [if_pos h1]
     have p1 : ((k : Int)==1)=true:=by rw [beq_iff_eq];omega
     clear h0 h1
     go_enter Tryz.func56, Tryz.ntmps56
     go_wp2
     go_ret
     exact ⟨rfl,HB.out⟩
   · rw [if_neg h1]
     have p1 : ((k : Int)==1)=false:=by rw [beq_eq_false_iff_ne];omega
     clear h0 h1
     go_enter Tryz.func56, Tryz.ntmps56
     go_wp2
     go_ret
     exact ⟨rfl,HB.out⟩
theorem PkAt.key5 {w : World} {cs : Array Value} {nm m o z s u h r : Value} {A A2 : Option Addr} {rs ats : List ByteArray} {W : World} (k : PkAt w cs #[nm,m,o,z,s,r,u,h] A A2 rs ats W) : W.cell? ⟨w.heap.size+1,5,none⟩=some r:=k.kc.2.2.2.2.2.1
theorem at_same {W : World} {b k : Nat} {ad : Addr} {ls : List ByteArray} {x : ByteArray} (h : SLs W b (some ad) ls) (hx : ls.getD k ByteArray.empty=x) (hk : k < ls.length) : W.cell? (ad.add k)=some (.string x):=by
 obtain ⟨ad',e,hc⟩:=h.at_ hk
 cases e
 rw [← hx];exact hc
theorem r30_fits (ch sl mm mo mg mh wm wo wg wh se at_ ha el es bl ma nm m o z s u h : ByteArray) (A A2 : Option Addr) (n n2 c c2 : Nat) (rs ats : List ByteArray) (w : World)
  (hn : rs.length=n) (hn2 : ats.length=n2) (hm : n≤1000) (hm2 : n2≤1000) (hs : SLs w w.heap.size A rs) (hs2 : SLs w w.heap.size A2 ats) (hva : ats.all valid=true) (hse : valid se=true) (hha : valid ha=true) (hat : valid at_=true) :
  Calls Tryz.prog 24 #[.agg #[.string ch,.string sl,.string mm,.string mo,.string mg,.string mh,.string wm,.string wo,.string wg,.string wh,.string se,.string at_,.string ha,.string el,.string es,.string bl,.string ma],.agg #[.string nm,.string m,.string o,.string z,.string s,.slice A n c,.string u,.string h],.slice A2 n2 c2] w fun e w'=>e=.returned (.int .i64 (attE se ha at_ rs ats))∧Below w.heap.size w w':=by
 have HS0:=PkAt.start w #[.string ch,.string sl,.string mm,.string mo,.string mg,.string mh,.string wm,.string wo,.string wg,.string wh,.string se,.string at_,.string ha,.string el,.string es,.string bl,.string ma] #[.string nm,.string m,.string o,.string z,.string s,.slice A n c,.string u,.string h] A A2 rs ats hs hs2
 obtain ⟨W0,hW0⟩ : ∃ W0,(w.alloc (.cells #[.string ch,.string sl,.string mm,.string mo,.string mg,.string mh,.string wm,.string wo,.string wg,.string wh,.string se,.string at_,.string ha,.string el,.string es,.string bl,.string ma] 30)).alloc (.cells #[.string nm,.string m,.string o,.string z,.string s,.slice A n c,.string u,.string h] 33)=W0:=⟨_,rfl⟩
 rw [hW0] at HS0
 have HS:=Lib.hid HS0
 have k5:=HS0.key5
 by_cases hl : n2=n
 · subst hl
   have HN2:=Lib.hid hn2
   have HL : Hid (ats.length=rs.length):=Lib.hid (hn2.trans hn.symm)
   have HVA:=Lib.hid hva
   have HV3:=Lib.hid (And.intro hse (And.intro hha hat))
   have KC:=Lib.hid (fun a b w=>r01_Cmp a b w)
   have KL:=Lib.hid (fun k w=>r30_Limit ch sl mm mo mg mh wm wo wg wh se at_ ha el es bl ma k w)
   have p0 : ((n2 : Int) != (n2 : Int))=false:=by simp
   clear HS0 hs hs2 hn hn2 hva hse hha hat
   go_enter Tryz.func24, Tryz.ntmps24
   go_wp2
   go_loopw [7] (fun i wr=>∃ k : Nat,i=.int .i64 k∧k≤n2∧(∀ j,j < k→num (ats.getD j ByteArray.empty) < num (limS se ha at_ j))∧PkAt w #[.string ch,.string sl,.string mm,.string mo,.string mg,.string mh,.string wm,.string wo,.string wg,.string wh,.string se,.string at_,.string ha,.string el,.string es,.string bl,.string ma] #[.string nm,.string m,.string o,.string z,.string s,.slice A n2 c,.string u,.string h] A A2 rs ats wr) (fun i _=>n2 - (intOf i).toNat)
   case atStart=>exact ⟨0,rfl,Nat.zero_le _,fun j hj=>absurd hj (Nat.not_lt_zero j),HS.out⟩
   case round =>
    obtain ⟨k,rfl,hk,hall,hpk⟩:=hrel
    have HALL:=Lib.hid hall
    have HP:=Lib.hid hpk
    clear hall hpk
    by_cases hlt : k < n2
    · obtain ⟨ad,rfl,hc⟩:=HP.out.att.at_ (k:=k) (by rw [HN2.out];exact hlt)
      have vx:=al_at HVA.out (k:=k) (by rw [HN2.out];exact hlt)
      obtain ⟨x,hx⟩ : ∃ x,ats.getD k ByteArray.empty=x:=⟨_,rfl⟩
      rw [hx] at hc vx
      have vl : valid (limS se ha at_ k)=true:=by
       rcases min_cases se ha at_ k with ⟨_,h2⟩ | ⟨_,h2⟩ | ⟨_,h2⟩<;>rw [h2]
       · exact HV3.out.1
       · exact HV3.out.2.1
       · exact HV3.out.2.2
      have KLk:=KL.out k
      obtain ⟨l,hll⟩ : ∃ l,limS se ha at_ k=l:=⟨_,rfl⟩
      rw [hll] at vl KLk
      have hcg:=cmp_ge vx vl
      have KCx:=Lib.hid (KC.out x l)
      have KLx:=Lib.hid KLk
      obtain ⟨cv,hcv⟩ : ∃ cv,natCmp x l=cv:=⟨_,rfl⟩
      rw [hcv] at hcg KCx
      have HX:=Lib.hid hx
      have HLL:=Lib.hid hll
      have HLT:=Lib.hid hlt
      obtain ⟨cs,hcs⟩ : ∃ cs : Array Value,cs=#[.string ch,.string sl,.string mm,.string mo,.string mg,.string mh,.string wm,.string wo,.string wg,.string wh,.string se,.string at_,.string ha,.string el,.string es,.string bl,.string ma]:=⟨_,rfl⟩
      have HCS:=Lib.hid hcs
      by_cases hxl : num x < num l
      · rw [decide_eq_true hxl] at hcg
        have HXL:=Lib.hid hxl
        clear hx hll hcv hxl vx vl
        have HQ : Hid (PkAt w cs #[.string nm,.string m,.string o,.string z,.string s,.slice A n2 c,.string u,.string h] A (some ad) rs ats wr):=Lib.hid (by rw [hcs];exact HP.out)
        have HSZ : Hid ((Tryz.prog.info? 30).map (·.size)=some cs.size):=Lib.hid (by rw [hcs];exact info17'.trans rfl)
        have KLx:=KLx.out
        rw [← hcs] at KLx
        have KLx:=Lib.hid KLx
        clear hcs
        go_upto_region 6 with fail
        refine wp_region_held_drew (S:=(fun w'=>w'.heap[w.heap.size]?=some (.cells cs 30 (0,0))∧w'.cell? (ad.add k)=some (.string x))) (by kernel_rfl) ?_ (fun hHeld=>?_)
        · exact ⟨HQ.out.par,hc⟩
        refine wpAnyH_takeD (i:=0) (v:=?_) (some 20) rfl (by kernel_rfl) (by kernel_rfl) (by kernel_rfl) (fun _ _ _ h=>h) rfl (Or.inl ⟨by rfl,?_⟩) (by assumption) ?_
        rotate_left
        · intro w' hS;obtain ⟨_,hc'⟩:=hS;go_simp<;>with_reducible rfl
        try simp only [Act.put,List.setIfInBounds_toArray,List.set]
        refine wpAnyH_takeD (i:=1) (v:=?_) (some 21) rfl (by kernel_rfl) (by kernel_rfl) (by kernel_rfl) (fun _ _ _ h=>h) rfl (Or.inl ⟨by rfl,?_⟩) (by assumption) ?_
        rotate_left
        · intro w' hS;obtain ⟨_,hc'⟩:=hS;go_simp<;>with_reducible rfl
        try simp only [Act.put,List.setIfInBounds_toArray,List.set]
        refine wpAnyH_takeD (i:=2) (v:=?_) (some 22) rfl (by kernel_rfl) (by kernel_rfl) (by kernel_rfl) (fun _ _ _ h=>h) rfl (Or.inl ⟨by rfl,?_⟩) (by assumption) ?_
        rotate_left
        · intro w' hS;obtain ⟨_,hc'⟩:=hS;go_simp<;>with_reducible rfl
        try simp only [Act.put,List.setIfInBounds_toArray,List.set]
        refine wpAnyH_takeD (i:=3) (v:=?_) (some 23) rfl (by kernel_rfl) (by kernel_rfl) (by kernel_rfl) (fun _ _ _ h=>h) rfl (Or.inl ⟨by rfl,?_⟩) (by assumption) ?_
        rotate_left
        · intro w' hS;obtain ⟨_,hc'⟩:=hS;go_simp<;>with_reducible rfl
        try simp only [Act.put,List.setIfInBounds_toArray,List.set]
        refine wpAnyH_takeD (i:=4) (v:=.agg cs) (some 24) rfl (by kernel_rfl) (by kernel_rfl) (by kernel_rfl) (fun _ _ _ h=>h) rfl (Or.inl ⟨by rfl,?_⟩) (by assumption) ?_
        · intro w' hS;exact run_exec_load_row 30 (.tmp 3) rfl w.heap.size rfl _ _ _ _ hS.1 Tryz.underlying30 rfl HSZ.out
        try simp only [Act.put,List.setIfInBounds_toArray,List.set]
        refine wpAnyH_takeD (i:=5) (v:=?_) (some 25) rfl (by kernel_rfl) (by kernel_rfl) (by kernel_rfl) (fun _ _ _ h=>h) rfl (Or.inl ⟨by rfl,?_⟩) (by assumption) ?_
        rotate_left
        · intro w' hS;obtain ⟨_,hc'⟩:=hS;go_simp<;>with_reducible rfl
        try simp only [Act.put,List.setIfInBounds_toArray,List.set]
        refine wpAnyH_ready (rs:=[6]) (by kernel_rfl) (by simp) ?_
        refine AllReadyH.cons rfl (fun K hK=>?_) AllReadyH.nil
        go_simp
        (go_at_call 56;(with_reducible refine (KLx.out _).mono ?_);rintro e w5 ⟨rfl,hb5⟩;have HQ5 : Hid (PkAt w cs #[.string nm,.string m,.string o,.string z,.string s,.slice A n2 c,.string u,.string h] A (some ad) rs ats w5):=(by first | exact Lib.hid (HQ.out.next hb5) | exact Lib.hid ((HQ.out.drew).next hb5));clear hb5)
        go_wp2_with fail
        refine hK.out _ _ ?_ (fun hHeld=>?_)
        · exact ⟨HQ5.out.par,at_same HQ5.out.att HX.out (by rw [HN2.out];exact HLT.out)⟩
        clear hK K
        try simp only [Act.put,List.setIfInBounds_toArray,List.set]
        refine wpAnyH_ready (rs:=[7]) (by kernel_rfl) (by simp) ?_
        refine AllReadyH.cons rfl (fun K hK=>?_) AllReadyH.nil
        go_simp
        (go_at_call 33;(with_reducible refine (KCx.out _).mono ?_);rintro e w6 ⟨rfl,hb6⟩;have HQ6 : Hid (PkAt w cs #[.string nm,.string m,.string o,.string z,.string s,.slice A n2 c,.string u,.string h] A (some ad) rs ats w6):=(by first | exact Lib.hid (HQ5.out.next hb6) | exact Lib.hid ((HQ5.out.drew).next hb6));clear hb6)
        go_wp2_with fail
        refine hK.out _ _ ?_ (fun hHeld=>?_)
        · exact ⟨HQ6.out.par,at_same HQ6.out.att HX.out (by rw [HN2.out];exact HLT.out)⟩
        clear hK K
        try simp only [Act.put,List.setIfInBounds_toArray,List.set]
        refine wpAnyH_takeD (i:=8) (v:=?_) (some 28) rfl (by kernel_rfl) (by kernel_rfl) (by kernel_rfl) (fun _ _ _ h=>h) rfl (Or.inl ⟨by rfl,?_⟩) (by assumption) ?_
        rotate_left
        · intro w' hS;obtain ⟨_,hc'⟩:=hS;go_simp<;>with_reducible rfl
        try simp only [Act.put,List.setIfInBounds_toArray,List.set]
        refine wpAnyH_done (by kernel_rfl) ?_ _
        go_wp2_with fail
        go_roundw
        case rel=>exact ⟨k+1,by go_num,HLT.out,fun j hj=>by
         rcases Nat.lt_or_ge j k with h1 | h1
         · exact HALL.out j h1
         · obtain rfl : j=k:=by omega
           rw [HX.out,HLL.out];exact HXL.out,by rw [← HCS.out];exact HQ6.out⟩
        case measure=>have:=HLT.out;simp [intOf];omega
      · rw [decide_eq_false hxl] at hcg
        have HE : Hid (attE se ha at_ rs ats=2):=Lib.hid (attE_range HL.out (k:=k) (by rw [HN2.out];exact hlt) (by rw [hx,hll];exact hxl))
        clear hx hll hcv hxl vx vl
        have HQ : Hid (PkAt w cs #[.string nm,.string m,.string o,.string z,.string s,.slice A n2 c,.string u,.string h] A (some ad) rs ats wr):=Lib.hid (by rw [hcs];exact HP.out)
        have HSZ : Hid ((Tryz.prog.info? 30).map (·.size)=some cs.size):=Lib.hid (by rw [hcs];exact info17'.trans rfl)
        have KLx:=KLx.out
        rw [← hcs] at KLx
        have KLx:=Lib.hid KLx
        clear hcs
        go_upto_region 6 with fail
        refine wp_region_held_drew (S:=(fun w'=>w'.heap[w.heap.size]?=some (.cells cs 30 (0,0))∧w'.cell? (ad.add k)=some (.string x))) (by kernel_rfl) ?_ (fun hHeld=>?_)
        · exact ⟨HQ.out.par,hc⟩
        refine wpAnyH_takeD (i:=0) (v:=?_) (some 20) rfl (by kernel_rfl) (by kernel_rfl) (by kernel_rfl) (fun _ _ _ h=>h) rfl (Or.inl ⟨by rfl,?_⟩) (by assumption) ?_
        rotate_left
        · intro w' hS;obtain ⟨_,hc'⟩:=hS;go_simp<;>with_reducible rfl
        try simp only [Act.put,List.setIfInBounds_toArray,List.set]
        refine wpAnyH_takeD (i:=1) (v:=?_) (some 21) rfl (by kernel_rfl) (by kernel_rfl) (by kernel_rfl) (fun _ _ _ h=>h) rfl (Or.inl ⟨by rfl,?_⟩) (by assumption) ?_
        rotate_left
        · intro w' hS;obtain ⟨_,hc'⟩:=hS;go_simp<;>with_reducible rfl
        try simp only [Act.put,List.setIfInBounds_toArray,List.set]
        refine wpAnyH_takeD (i:=2) (v:=?_) (some 22) rfl (by kernel_rfl) (by kernel_rfl) (by kernel_rfl) (fun _ _ _ h=>h) rfl (Or.inl ⟨by rfl,?_⟩) (by assumption) ?_
        rotate_left
        · intro w' hS;obtain ⟨_,hc'⟩:=hS;go_simp<;>with_reducible rfl
        try simp only [Act.put,List.setIfInBounds_toArray,List.set]
        refine wpAnyH_takeD (i:=3) (v:=?_) (some 23) rfl (by kernel_rfl) (by kernel_rfl) (by kernel_rfl) (fun _ _ _ h=>h) rfl (Or.inl ⟨by rfl,?_⟩) (by assumption) ?_
        rotate_left
        · intro w' hS;obtain ⟨_,hc'⟩:=hS;go_simp<;>with_reducible rfl
        try simp only [Act.put,List.setIfInBounds_toArray,List.set]
        refine wpAnyH_takeD (i:=4) (v:=.agg cs) (some 24) rfl (by kernel_rfl) (by kernel_rfl) (by kernel_rfl) (fun _ _ _ h=>h) rfl (Or.inl ⟨by rfl,?_⟩) (by assumption) ?_
        · intro w' hS;exact run_exec_load_row 30 (.tmp 3) rfl w.heap.size rfl _ _ _ _ hS.1 Tryz.underlying30 rfl HSZ.out
        try simp only [Act.put,List.setIfInBounds_toArray,List.set]
        refine wpAnyH_takeD (i:=5) (v:=?_) (some 25) rfl (by kernel_rfl) (by kernel_rfl) (by kernel_rfl) (fun _ _ _ h=>h) rfl (Or.inl ⟨by rfl,?_⟩) (by assumption) ?_
        rotate_left
        · intro w' hS;obtain ⟨_,hc'⟩:=hS;go_simp<;>with_reducible rfl
        try simp only [Act.put,List.setIfInBounds_toArray,List.set]
        refine wpAnyH_ready (rs:=[6]) (by kernel_rfl) (by simp) ?_
        refine AllReadyH.cons rfl (fun K hK=>?_) AllReadyH.nil
        go_simp
        (go_at_call 56;(with_reducible refine (KLx.out _).mono ?_);rintro e w5 ⟨rfl,hb5⟩;have HQ5 : Hid (PkAt w cs #[.string nm,.string m,.string o,.string z,.string s,.slice A n2 c,.string u,.string h] A (some ad) rs ats w5):=(by first | exact Lib.hid (HQ.out.next hb5) | exact Lib.hid ((HQ.out.drew).next hb5));clear hb5)
        go_wp2_with fail
        refine hK.out _ _ ?_ (fun hHeld=>?_)
        · exact ⟨HQ5.out.par,at_same HQ5.out.att HX.out (by rw [HN2.out];exact HLT.out)⟩
        clear hK K
        try simp only [Act.put,List.setIfInBounds_toArray,List.set]
        refine wpAnyH_ready (rs:=[7]) (by kernel_rfl) (by simp) ?_
        refine AllReadyH.cons rfl (fun K hK=>?_) AllReadyH.nil
        go_simp
        (go_at_call 33;(with_reducible refine (KCx.out _).mono ?_);rintro e w6 ⟨rfl,hb6⟩;have HQ6 : Hid (PkAt w cs #[.string nm,.string m,.string o,.string z,.string s,.slice A n2 c,.string u,.string h] A (some ad) rs ats w6):=(by first | exact Lib.hid (HQ5.out.next hb6) | exact Lib.hid ((HQ5.out.drew).next hb6));clear hb6)
        go_wp2_with fail
        refine hK.out _ _ ?_ (fun hHeld=>?_)
        · exact ⟨HQ6.out.par,at_same HQ6.out.att HX.out (by rw [HN2.out];exact HLT.out)⟩
        clear hK K
        try simp only [Act.put,List.setIfInBounds_toArray,List.set]
        refine wpAnyH_takeD (i:=8) (v:=?_) (some 28) rfl (by kernel_rfl) (by kernel_rfl) (by kernel_rfl) (fun _ _ _ h=>h) rfl (Or.inl ⟨by rfl,?_⟩) (by assumption) ?_
        rotate_left
        · intro w' hS;obtain ⟨_,hc'⟩:=hS;go_simp<;>with_reducible rfl
        try simp only [Act.put,List.setIfInBounds_toArray,List.set]
        refine wpAnyH_done (by kernel_rfl) ?_ _
        go_wp2_with fail
        go_ret
        exact ⟨by rw [HE.out];rfl,HQ6.out.bel⟩
    · obtain rfl : k=n2:=by omega
      have HE : Hid (attE se ha at_ rs ats=0):=Lib.hid (attE_ok HL.out (fun j hj=>HALL.out j (by rw [HN2.out] at hj;exact hj)))
      go_wp2
      go_ret
      exact ⟨by rw [HE.out];rfl,HP.out.bel⟩
 · have HE : Hid (attE se ha at_ rs ats=6):=Lib.hid (attE_many (by omega))
   have p0 : ((n2 : Int) != (n : Int))=true:=by rw [bne_iff_ne];omega
   clear hl hs hs2 hn hn2 hva hse hha hat hm hm2 HS0
   go_enter Tryz.func24, Tryz.ntmps24
   go_wp2
   go_ret
   exact ⟨by rw [HE.out];rfl,HS.out.bel⟩
end Go.Proofs.YtjkccbpmlapgcaaGreatDoor
