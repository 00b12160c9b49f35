/- The walks of the reference: a product of powers (package 13), the product of the bases R, Message (package 30). -/
import Derived.Test.YtjkccbpmlapgcaaGreatDoorMvKk
namespace Go.Proofs.YtjkccbpmlapgcaaGreatDoor
open Go.RowKit
set_option maxRecDepth 100000
set_option linter.unusedVariables false
set_option maxHeartbeats 8000000
theorem rfE_snoc (m : Nat) (l : List (Nat × Nat)) (p : Nat × Nat) (x : Nat) : rfE m (l++[p]) x=rfE m l x*(p.1 ^ p.2 % m) % m:=by unfold rfE;rw [List.foldl_append];rfl
theorem zipE_length {rs ats : List ByteArray} (h : ats.length=rs.length) : (zipE rs ats).length=rs.length:=by unfold zipE;simp [h]
theorem zipE_take_succ {rs ats : List ByteArray} {k : Nat} (h : ats.length=rs.length) (hk : k < rs.length) : (zipE rs ats).take (k+1)=(zipE rs ats).take k++[(num (rs.getD k ByteArray.empty),num (ats.getD k ByteArray.empty))]:=by
 rw [List.take_succ_eq_append_getElem (by rw [zipE_length h];exact hk),sgetD_lt hk,sgetD_lt (by omega : k < ats.length)]
 unfold zipE
 rw [List.getElem_zipWith]
theorem num_lim {s : ByteArray} (h : valid s=true) : num s < lim:=valid_num_lt h
theorem z_same {W : World} {b k g : Nat} {es : List (Bool × ByteArray)} {e : Bool × ByteArray} (h : ZLs W b (some ⟨g,0,none⟩) es) (he : es.getD k z0=e) (hk : k < es.length) : W.cell? ⟨g,k*2,none⟩=some (.bool e.1)∧W.cell? ⟨g,k*2+1,none⟩=some (.string e.2):=by
 obtain ⟨g',eg,_,h1,h2⟩:=h.at_ hk
 cases eg
 rw [← he];exact ⟨h1,h2⟩
theorem r13_ProductN (m o : ByteArray) (rs ats : List ByteArray) (A1 A2 : Option Addr) (n c1 c2 : Nat) (w : World) (sm : m.size≤8) (hg : groupE m o=0) (hrs : rs.all (hasG m o)=true) (hva : ats.all valid=true)
  (hn1 : rs.length=n) (hn2 : ats.length=n) (hm : n≤1000) (h2M : 2≤num m) (h1 : SLs w w.heap.size A1 rs) (h2 : ZLs w w.heap.size A2 (posZ ats)) :
  Calls Tryz.prog 58 #[.agg #[.string m,.string o],.slice A1 n c1,.slice A2 n c2] w fun r w'=>r=.returned (.tuple #[.string (B (msgV m rs ats)),.int .i64 0])∧Below w.heap.size w w':=by
 have HS:=Lib.hid (PwAt.start (m:=m) (o:=o) 26 h1 h2)
 have hvm : valid m=true:=groupE_vm hg
 have hM : num m < 18446744073709551616:=u64_of_size sm
 have HN1:=Lib.hid hn1
 have HN2:=Lib.hid hn2
 have HZL : Hid ((posZ ats).length=n):=Lib.hid (by rw [posZ_length];exact hn2)
 have HL : Hid (ats.length=rs.length):=Lib.hid (hn2.trans hn1.symm)
 have HR:=Lib.hid hrs
 have HVA:=Lib.hid hva
 have KV:=Lib.hid (fun x w=>r01_Valid x w)
 have KVI:=Lib.hid (fun k w (hk : k < lim)=>r02_Valid k w hk)
 have KC:=fun w=>r13_Check m o w sm
 rw [hg] at KC
 have KC:=Lib.hid KC
 have KH:=Lib.hid (fun x w (hv : valid x=true)=>r13_has m o x w sm hg hv)
 have KR:=Lib.hid (fun a e w (ha : a < lim) (he : e < lim)=>r13_raw m o a e w ha sm hvm (by omega : 0 < num m) he)
 have KM:=Lib.hid (fun a b w (ha : a < num m) (hb : b < num m)=>r03_Mul a b (num m) w ha hb hM)
 rw [B_num hvm] at KM
 obtain ⟨M,hMM⟩ : ∃ M,num m=M:=⟨_,rfl⟩
 have HV : Hid (msgV m rs ats=pwE (zipE rs ats) % M):=Lib.hid (by rw [← hMM];rfl)
 obtain ⟨V,hV⟩ : ∃ V,msgV m rs ats=V:=⟨_,rfl⟩
 rw [hV] at HV ⊢
 rw [hMM] at KR KM h2M
 have HSM:=Lib.hid sm
 have H2M:=Lib.hid h2M
 have HMM:=Lib.hid hMM
 obtain ⟨W0,hW0⟩ : ∃ W0,w.alloc (.cells #[.string m,.string o] 26)=W0:=⟨_,rfl⟩
 rw [hW0] at HS
 have p0 : ((n : Int) != (n : Int))=false:=by simp
 clear hg hrs hva hn1 hn2 h1 h2 sm hM h2M hMM hvm hV
 go_enter Tryz.func58, Tryz.ntmps58
 go_wp2
 go_loop [8] (fun i=>∃ k : Nat,k≤n∧i=.int .i64 k) (fun i=>n - (intOf i).toNat)
 case atStart=>exact ⟨0,Nat.zero_le _,rfl⟩
 case round =>
  obtain ⟨k,hk,rfl⟩:=hrel
  by_cases hlt : k < n
  · obtain ⟨ad,rfl,hc⟩:=HS.out.r1.at_ (k:=k) (by rw [HN1.out];exact hlt)
    have hx:=al_at HR.out (k:=k) (by rw [HN1.out];exact hlt)
    obtain ⟨x,hxx⟩ : ∃ x,rs.getD k ByteArray.empty=x:=⟨_,rfl⟩
    rw [hxx] at hc hx
    have KVx:=KV.out x
    rw [(hasG_lt HSM.out hx).1] at KVx
    have KX:=Lib.hid KVx
    clear hxx hx KVx
    go_wp2_with (go_at_call 53;(with_reducible refine (KX.out _).mono ?_);rintro e w' ⟨rfl,rfl⟩)
    go_round
    case rel=>exact ⟨k+1,by omega,by go_num⟩
    case measure=>simp [intOf];omega
  · obtain rfl : k=n:=by omega
    clear hlt hk
    go_wp2
    go_loopw [9] (fun i wr=>∃ j : Nat,j≤k∧i=.int .i64 j∧PwAt w m o A1 A2 rs (posZ ats) wr) (fun i _=>k - (intOf i).toNat)
    case atStart=>exact ⟨0,Nat.zero_le _,rfl,HS.out⟩
    case round =>
     obtain ⟨j,hj,rfl,hp⟩:=hrel
     have HP:=Lib.hid hp
     clear hp
     by_cases hlj : j < k
     · obtain ⟨g,rfl,hgl,hc1,hc2⟩:=HP.out.r2.at_ (k:=j) (by rw [HZL.out];exact hlj)
       rw [posZ_getD (by rw [HN2.out];exact hlj)] at hc1 hc2
       have vx:=al_at HVA.out (k:=j) (by rw [HN2.out];exact hlj)
       obtain ⟨x,hx⟩ : ∃ x,ats.getD j ByteArray.empty=x:=⟨_,rfl⟩
       rw [hx] at hc2 vx
       have ex:=B_num vx
       have hxl:=num_lim vx
       obtain ⟨X,hX⟩ : ∃ X,num x=X:=⟨_,rfl⟩
       rw [hX] at ex hxl
       subst ex
       have KX:=Lib.hid (fun w=>KVI.out X w hxl)
       have hgw : g < wr.heap.size:=Nat.lt_of_lt_of_le hgl HP.out.bel.size
       have HLJ:=Lib.hid hlj
       clear hx vx hX hxl
       go_wp2_with (go_at_call 110;(with_reducible refine (KX.out _).mono ?_);rintro e w5 ⟨rfl,hb5⟩
                    have HP5:=Lib.hid (HP.out.next hb5)
                    clear hb5)
       go_roundw
       case rel=>exact ⟨j+1,HLJ.out,by go_num,HP5.out⟩
       case measure=>have:=HLJ.out;simp [intOf];omega
     · obtain rfl : j=k:=by omega
       obtain ⟨c0,c1',_,_,_,_⟩:=HP.out
       clear hlj hj
       go_wp2_with (go_at_call 55;(with_reducible refine (KC.out _).mono ?_);rintro e w6 ⟨rfl,hb6⟩
                    have HP6:=Lib.hid (HP.out.next hb6)
                    clear hb6)
       go_loopw [11] (fun i wr=>∃ t : Nat,t≤j∧i=.int .i64 t∧PwAt w m o A1 A2 rs (posZ ats) wr) (fun i _=>j - (intOf i).toNat)
       case atStart=>exact ⟨0,Nat.zero_le _,rfl,HP6.out⟩
       case round =>
        obtain ⟨t,ht,rfl,hp⟩:=hrel
        have HPr:=Lib.hid hp
        obtain ⟨c0,c1',_,_,_,_⟩:=hp
        by_cases hlt : t < j
        · obtain ⟨ad,rfl,hc⟩:=HPr.out.r1.at_ (k:=t) (by rw [HN1.out];exact hlt)
          have hx:=al_at HR.out (k:=t) (by rw [HN1.out];exact hlt)
          obtain ⟨x,hxx⟩ : ∃ x,rs.getD t ByteArray.empty=x:=⟨_,rfl⟩
          rw [hxx] at hc hx
          have KHx:=fun w=>KH.out x w (hasG_lt HSM.out hx).1
          rw [hx] at KHx
          have KX:=Lib.hid KHx
          have HXX:=Lib.hid hxx
          have HLT:=Lib.hid hlt
          clear hxx hx KHx
          go_upto_region 19 with fail
          go_region_held3 (fun w'=>w'.cell? ⟨w.heap.size,0,none⟩=some (.string m)∧w'.cell? ⟨w.heap.size,1,none⟩=some (.string o)∧w'.cell? (ad.add t)=some (.string x)) (first | go_keep) (first
           | (go_at_call 75;(with_reducible refine (KX.out _).mono ?_);rintro e w7 ⟨rfl,hb7⟩
              have HP7 : Hid (PwAt w m o (some ad) A2 rs (posZ ats) w7):=by first | exact Lib.hid (HPr.out.next hb7) | exact Lib.hid ((HPr.out.next (Below.refl _ _).drew).next hb7)
              have hc:=at_same HP7.out.r1 HXX.out (by rw [HN1.out];exact HLT.out)
              obtain ⟨c0,c1',_,_,_,_⟩:=HP7.out
              clear hb7))
          all_goals
           go_wp2_with fail
           go_roundw
           case rel=>exact ⟨t+1,HLT.out,by go_num,HP7.out⟩
           case measure=>have:=HLT.out;simp [intOf];omega
        · obtain rfl : t=j:=by omega
          clear hlt ht
          have HY0 : Hid (1=rfE M ((zipE rs ats).take 0) 1∧1 < M):=Lib.hid ⟨rfl,by have:=H2M.out;omega⟩
          have e1 : (⟨#[1]⟩ : ByteArray)=B 1:=by decide +kernel
          have HE1:=Lib.hid e1
          clear e1
          go_wp2
          go_loopw [12,13] (fun x i wr=>∃ (b y : Nat),i=.int .i64 b∧b≤t∧x=.string (B y)∧y=rfE M ((zipE rs ats).take b) 1∧y < M∧PwAt w m o A1 A2 rs (posZ ats) wr) (fun _ i _=>t - (intOf i).toNat)
          case atStart=>exact ⟨0,1,rfl,Nat.zero_le _,by rw [← HE1.out],HY0.out.1,HY0.out.2,HPr.out⟩
          case round =>
           obtain ⟨b,y,rfl,hb,rfl,hy,hyM,hp⟩:=hrel
           have HPb:=Lib.hid hp
           obtain ⟨c0,c1',_,_,_,_⟩:=hp
           have HY:=Lib.hid hy
           have HYM:=Lib.hid hyM
           clear hy hyM
           by_cases hlt : b < t
           · obtain ⟨ad,rfl,hc⟩:=HPb.out.r1.at_ (k:=b) (by rw [HN1.out];exact hlt)
             obtain ⟨g,rfl,hgl,hc1,hc2⟩:=HPb.out.r2.at_ (k:=b) (by rw [HZL.out];exact hlt)
             rw [posZ_getD (by rw [HN2.out];exact hlt)] at hc1 hc2
             have vx:=al_at HVA.out (k:=b) (by rw [HN2.out];exact hlt)
             have hx:=al_at HR.out (k:=b) (by rw [HN1.out];exact hlt)
             have hts:=zipE_take_succ HL.out (k:=b) (by rw [HN1.out];exact hlt)
             obtain ⟨x,hxx⟩ : ∃ x,rs.getD b ByteArray.empty=x:=⟨_,rfl⟩
             obtain ⟨e,hee⟩ : ∃ e,ats.getD b ByteArray.empty=e:=⟨_,rfl⟩
             have HXX:=Lib.hid hxx
             have HEE:=Lib.hid hee
             rw [hxx] at hc hx hts
             rw [hee] at hc2 vx hts
             have hvx:=(hasG_lt HSM.out hx).1
             have ex:=B_num hvx
             have ee:=B_num vx
             have hel:=num_lim vx
             have hxl:=num_lim hvx
             obtain ⟨X,hX⟩ : ∃ X,num x=X:=⟨_,rfl⟩
             obtain ⟨E,hE⟩ : ∃ E,num e=E:=⟨_,rfl⟩
             rw [hX] at ex hts hxl
             rw [hE] at ee hts hel
             have KRx:=KR.out X E
             have hPM : X ^ E % M < M:=Nat.mod_lt _ (by have:=H2M.out;omega)
             have hst : rfE M ((zipE rs ats).take (b+1)) 1=y*(X ^ E % M) % M:=by rw [hts,rfE_snoc,← HY.out]
             obtain ⟨PW,hPW⟩ : ∃ PW,X ^ E % M=PW:=⟨_,rfl⟩
             rw [hPW] at KRx hPM hst
             obtain ⟨Z,hZ⟩ : ∃ Z,y*PW % M=Z:=⟨_,rfl⟩
             have KMx:=fun w=>KM.out y PW w HYM.out hPM
             rw [hZ] at KMx hst
             have KR2:=Lib.hid (fun w=>KRx w hxl hel)
             have KM2:=Lib.hid KMx
             have HST:=Lib.hid hst
             have HZM : Hid (Z < M):=Lib.hid (by rw [← hZ];exact Nat.mod_lt _ (by have:=H2M.out;omega))
             have HLT:=Lib.hid hlt
             rw [← ex] at hc
             rw [← ee] at hc2
             have HXB : Hid (rs.getD b ByteArray.empty=B X):=Lib.hid (hxx.trans ex.symm)
             have HEB : Hid (ats.getD b ByteArray.empty=B E):=Lib.hid (hee.trans ee.symm)
             have hgw : g < wr.heap.size:=Nat.lt_of_lt_of_le hgl HPb.out.bel.size
             clear hxx hee hx vx hts hvx ex ee hel hxl hX hE KRx hPM hst hPW hZ KMx HXX HEE
             go_upto_region 25 with fail
             go_region_held3 (fun w'=>w'.cell? ⟨w.heap.size,0,none⟩=some (.string m)∧w'.cell? ⟨w.heap.size,1,none⟩=some (.string o)∧w'.cell? (ad.add b)=some (.string (B X))∧w'.cell? ⟨g,b*2,none⟩=some (.bool false)∧w'.cell? ⟨g,b*2+1,none⟩=some (.string (B E))) (first | go_keep) (first
              | (go_at_call 112;(with_reducible refine (KR2.out _).mono ?_);rintro e w7 ⟨rfl,hb7⟩
                 have HP7 : Hid (PwAt w m o (some ad) (some ⟨g,0,none⟩) rs (posZ ats) w7):=by first | exact Lib.hid (HPb.out.next hb7) | exact Lib.hid ((HPb.out.next (Below.refl _ _).drew).next hb7)
                 have hc:=at_same HP7.out.r1 HXB.out (by rw [HN1.out];exact HLT.out)
                 have hz7:=z_same HP7.out.r2 (posZ_getD (by rw [HN2.out];exact HLT.out)) (by rw [HZL.out];exact HLT.out)
                 obtain ⟨hc1,hc2⟩:=hz7
                 rw [HEB.out] at hc2
                 obtain ⟨c0,c1',_,_,_,_⟩:=HP7.out
                 clear hb7)
              | (go_at_call 111;(with_reducible refine (KM2.out _).mono ?_);rintro e w8 ⟨rfl,hb8⟩
                 have HP8 : Hid (PwAt w m o (some ad) (some ⟨g,0,none⟩) rs (posZ ats) w8):=by first | exact Lib.hid (HP7.out.next hb8) | exact Lib.hid ((HP7.out.next (Below.refl _ _).drew).next hb8)
                 have hc:=at_same HP8.out.r1 HXB.out (by rw [HN1.out];exact HLT.out)
                 have hz8:=z_same HP8.out.r2 (posZ_getD (by rw [HN2.out];exact HLT.out)) (by rw [HZL.out];exact HLT.out)
                 obtain ⟨hc1,hc2⟩:=hz8
                 rw [HEB.out] at hc2
                 obtain ⟨c0,c1',_,_,_,_⟩:=HP8.out
                 clear hb8))
             all_goals
              go_wp2_with fail
              go_roundw
              case rel=>exact ⟨b+1,Z,by go_num,HLT.out,rfl,HST.out.symm,HZM.out,HP8.out⟩
              case measure=>have:=HLT.out;simp [intOf];omega
           · obtain rfl : b=t:=by omega
             have HF : Hid (y=V):=Lib.hid (by
              rw [HY.out,List.take_of_length_le (by rw [zipE_length HL.out,HN1.out];exact Nat.le_refl _),rfE_eq _ _ _ (by have:=H2M.out;omega),Nat.one_mul,HV.out])
             clear hlt hb
             go_wp2
             go_ret2
             exact ⟨ret_se (by rw [HF.out]) rfl,HPb.out.bel⟩
structure K1At (w : World) (ks : Array Value) (A A2 : Option Addr) (rs ats : List ByteArray) (W : World) : Prop where
 key : W.heap[w.heap.size]?=some (.cells ks 33 (0,0))
 row : SLs W w.heap.size A rs
 att : SLs W w.heap.size A2 ats
 sz : w.heap.size+1≤W.heap.size
 bel : Below w.heap.size w W
theorem K1At.nextB {w : World} {ks : Array Value} {A A2 : Option Addr} {rs ats : List ByteArray} {W W' : World} (k : K1At w ks A A2 rs ats W) {Bx : Nat} (hb : Below Bx W W') (hB : w.heap.size+1≤Bx) : K1At w ks A A2 rs ats W' :=
 ⟨(hb.block _ (by omega)).trans k.key,k.row.next (by omega : w.heap.size≤Bx) hb,k.att.next (by omega : w.heap.size≤Bx) hb,Nat.le_trans k.sz hb.size,k.bel.trans (hb.mono (by omega))⟩
theorem K1At.start (w : World) (ks : Array Value) (A A2 : Option Addr) (rs ats : List ByteArray) (h1 : SLs w w.heap.size A rs) (h2 : SLs w w.heap.size A2 ats) : K1At w ks A A2 rs ats (w.alloc (.cells ks 33)):=by
 have hb : Below w.heap.size w (w.alloc (.cells ks 33)):=(Below.refl _ _).alloc (Nat.le_refl _) _
 exact ⟨heap_alloc_new w _,h1.below hb,h2.below hb,by simp,hb⟩
theorem K1At.kc {w : World} {nm m o z s u h r : Value} {A A2 : Option Addr} {rs ats : List ByteArray} {W : World} (k : K1At w #[nm,m,o,z,s,r,u,h] A A2 rs ats W) :
  W.cell? ⟨w.heap.size,1,none⟩=some m∧W.cell? ⟨w.heap.size,2,none⟩=some o∧W.cell? ⟨w.heap.size,5,none⟩=some r:=by
 refine ⟨?_,?_,?_⟩<;>simp [World.cell?,k.key]
theorem r30_Product (nm m o z s u h : ByteArray) (A A2 : Option Addr) (n c c2 : Nat) (rs ats : List ByteArray) (w : World) (sm : m.size≤8) (hg : groupE m o=0) (hrs : rs.all (hasG m o)=true) (hva : ats.all valid=true)
  (hn : rs.length=n) (hn2 : ats.length=n) (hm : n≤1000) (h2M : 2≤num m) (hs : SLs w w.heap.size A rs) (hs2 : SLs w w.heap.size A2 ats) :
  Calls Tryz.prog 25 #[.agg #[.string nm,.string m,.string o,.string z,.string s,.slice A n c,.string u,.string h],.slice A2 n c2] w fun e w'=>e=.returned (.string (B (msgV m rs ats)))∧Below w.heap.size w w':=by
 have HS0:=K1At.start w #[.string nm,.string m,.string o,.string z,.string s,.slice A n c,.string u,.string h] A A2 rs ats hs hs2
 obtain ⟨W0,hW0⟩ : ∃ W0,w.alloc (.cells #[.string nm,.string m,.string o,.string z,.string s,.slice A n c,.string u,.string h] 33)=W0:=⟨_,rfl⟩
 rw [hW0] at HS0
 have HS:=Lib.hid HS0
 have HN2:=Lib.hid hn2
 have HM:=Lib.hid hm
 have HVA:=Lib.hid hva
 have KF:=Lib.hid (fun k w (hk : k < lim)=>r02_From k w (Lib.hid hk))
 have KP:=Lib.hid (fun (wq : World) A3 c3 (h1 : SLs wq wq.heap.size A rs) (h2 : ZLs wq wq.heap.size A3 (posZ ats))=>r13_ProductN m o rs ats A A3 n c c3 wq sm hg hrs hva hn hn2 hm h2M h1 h2)
 obtain ⟨V,hV⟩ : ∃ V,msgV m rs ats=V:=⟨_,rfl⟩
 rw [hV] at KP ⊢
 clear HS0 hs hs2 sm hg hrs hva hn hn2 h2M hV
 go_enter Tryz.func25, Tryz.ntmps25
 go_wp2
 go_loopw [5,6] (fun v i wr=>∃ (k : Nat) (A3 : Option Addr) (c3 : Nat),i=.int .i64 k∧k≤n∧v=.slice A3 k c3∧OwnZ wr (w.heap.size+1) (.slice A3 k c3) k (posZ (ats.take k))∧K1At w #[.string nm,.string m,.string o,.string z,.string s,.slice A n c,.string u,.string h] A A2 rs ats wr) (fun _ i _=>n - (intOf i).toNat)
 case atStart=>exact ⟨0,none,0,rfl,Nat.zero_le _,rfl,OwnZ.nil_ _ _,HS.out⟩
 case round =>
  obtain ⟨k,A3,c3,rfl,hk,rfl,how,hat⟩:=hrel
  have HOW:=Lib.hid how
  have HAT:=Lib.hid hat
  clear how hat
  by_cases hlt : k < n
  · obtain ⟨ad,rfl,hc⟩:=HAT.out.att.at_ (k:=k) (by rw [HN2.out];exact hlt)
    have vx:=al_at HVA.out (k:=k) (by rw [HN2.out];exact hlt)
    have hts:=posZ_take_succ (ats:=ats) (k:=k) (by rw [HN2.out];exact hlt)
    obtain ⟨x,hx⟩ : ∃ x,ats.getD k ByteArray.empty=x:=⟨_,rfl⟩
    rw [hx] at hc vx hts
    have ex:=B_num vx
    have hxl:=num_lim vx
    obtain ⟨X,hX⟩ : ∃ X,num x=X:=⟨_,rfl⟩
    rw [hX] at ex hxl
    rw [← ex] at hc hts
    have KX:=Lib.hid (fun w=>KF.out X w hxl)
    have HTS:=Lib.hid hts
    have HLT:=Lib.hid hlt
    have HK3 : Hid (w.heap.size+1≤wr.heap.size):=Lib.hid HAT.out.sz
    have HKL : Hid (k≤100000):=Lib.hid (by have:=HM.out;omega)
    clear hx hts vx ex hxl hX hk
    go_wp2_with (first
     | (go_at_call 57;(with_reducible refine (KX.out _).mono ?_);rintro e w5 ⟨rfl,hb5⟩
        have HB5:=Lib.hid (hb5.alloc hb5.size (.cells #[.bool false,.string (B X)] 75))
        clear hb5)
     | (at_builtin;refine wpList_append_Z rfl (.tmp 15) (.tmp 21) rfl (w.heap.size+1) (.slice A3 k c3) k (posZ (ats.take k)) rfl (HOW.out.kept HB5.out) w5.heap.size 1 (false,B X) rfl (by simp [go_sem]) (by simp [go_sem]) (by simp) HKL.out (Nat.le_trans HK3.out HB5.out.size) ?_
        intro v7 w7 hown7 hb7
        obtain ⟨A7,c7,rfl,_⟩:=hown7.form
        have HOW7:=Lib.hid hown7
        have HAT7:=Lib.hid ((HAT.out.nextB HB5.out HK3.out).nextB hb7 (Nat.le_refl _))
        clear hown7 hb7))
    go_roundw
    case rel=>exact ⟨k+1,A7,c7,by go_num,HLT.out,rfl,by rw [HTS.out];exact HOW7.out,HAT7.out⟩
    case measure=>have:=HLT.out;simp [intOf];omega
  · obtain rfl : k=n:=by omega
    obtain ⟨A5,c5,he5,hz5⟩:=HOW.out.form
    injection he5 with e1 e2 e3
    subst e1
    rw [List.take_of_length_le (by rw [HN2.out];exact Nat.le_refl _)] at hz5
    have KPx:=Lib.hid (KP.out _ A3 c3 (HAT.out.row.more HAT.out.bel.size) hz5)
    obtain ⟨k1,k2,k5⟩:=HAT.out.kc
    clear e2 e3 hz5 hlt hk
    go_wp2_with (go_at_call 58;(with_reducible refine KPx.out.mono ?_);rintro e w6 ⟨rfl,hb6⟩
                 have HB6:=Lib.hid (HAT.out.bel.trans (hb6.mono HAT.out.bel.size))
                 clear hb6)
    go_ret
    exact ⟨rfl,HB6.out⟩
theorem r30_Message (P : Int) (ch sl mm mo mg mh wm wo wg wh se at_ ha el es bl ma nm m o z s u h : ByteArray) (A A2 : Option Addr) (n n2 c c2 : Nat) (rs ats : List ByteArray) (w : World) (sm : m.size≤8) (snm : nm.size≤100000)
  (hn : rs.length=n) (hn2 : ats.length=n2) (hm : n≤1000) (hm2 : n2≤1000) (hs : SLs w w.heap.size A rs) (hs2 : SLs w w.heap.size A2 ats) (hPv : P=0→valid se=true∧valid ha=true∧valid at_=true)
  (hP : ∀ wq,Below w.heap.size w wq→Calls Tryz.prog 51 #[.agg #[.string ch,.string sl,.string mm,.string mo,.string mg,.string mh,.string wm,.string wo,.string wg,.string wh,.string se,.string at_,.string ha,.string el,.string es,.string bl,.string ma]] wq fun e w'=>e=.returned (.int .i64 P)∧Below wq.heap.size wq w') :
  Calls Tryz.prog 9 #[.agg #[.string ch,.string sl,.string mm,.string mo,.string mg,.string mh,.string wm,.string wo,.string wg,.string wh,.string se,.string at_,.string ha,.string el,.string es,.string bl,.string ma],.agg #[.string nm,.string m,.string o,.string z,.string s,.slice A n c,.string u,.string h],.slice A2 n2 c2] w fun e w'=>e=.returned (.tuple #[.string (msgS (keyE P nm m o z s u h rs) m se ha at_ rs ats).1,.int .i64 (msgS (keyE P nm m o z s u h rs) m se ha at_ rs ats).2])∧Below w.heap.size w w':=by
 have HS0:=PkAt.start w #[.string ch,.string sl,.string mm,.string mo,.string mg,.string mh,.string wm,.string wo,.string wg,.string wh,.string se,.string at_,.string ha,.string el,.string es,.string bl,.string ma] #[.string nm,.string m,.string o,.string z,.string s,.slice A n c,.string u,.string h] A A2 rs ats hs hs2
 have KK:=Lib.hid (fun (wq : World) (h1 : Below w.heap.size w wq)=>r29_Check P ch sl mm mo mg mh wm wo wg wh se at_ ha el es bl ma nm m o z s u h A n c rs wq sm snm hn hm (hs.below h1 |>.more h1.size) (fun wq2 h2=>hP wq2 (h1.trans (h2.mono h1.size))))
 have KF:=Lib.hid (fun (wq : World) (h1 : SLs wq w.heap.size A2 ats)=>r30_nats ats A2 n2 c2 w.heap.size wq hn2 (by omega) h1)
 have HZ:=Lib.hid (@keyE_zero P nm m o z s u h rs)
 obtain ⟨K,hK⟩ : ∃ K,keyE P nm m o z s u h rs=K:=⟨_,rfl⟩
 rw [hK] at KK HZ ⊢
 obtain ⟨W0,hW0⟩ : ∃ W0,(w.alloc (.cells #[.string ch,.string sl,.string mm,.string mo,.string mg,.string mh,.string wm,.string wo,.string wg,.string wh,.string se,.string at_,.string ha,.string el,.string es,.string bl,.string ma] 30)).alloc (.cells #[.string nm,.string m,.string o,.string z,.string s,.slice A n c,.string u,.string h] 33)=W0:=⟨_,rfl⟩
 rw [hW0] at HS0
 have HS:=Lib.hid HS0
 clear HS0 hK
 by_cases h0 : K=0
 · subst h0
   have hkey:=HZ.out rfl
   cases hv : ats.all valid
   · have HE : Hid (msgS 0 m se ha at_ rs ats=(⟨#[]⟩,3)):=Lib.hid (msgS_form hv)
     rw [hv] at KF
     clear hv hkey hs hs2 hPv hP sm snm hn hn2
     go_enter Tryz.func9, Tryz.ntmps9
     go_wp2_with (first
      | (refine wpList_load_row rfl 30 _ rfl _ rfl 30 _ (0,0) _ HS.out.par Tryz.underlying30 rfl (info17'.trans rfl) ?_)
      | (refine wpList_load_row rfl 33 _ rfl _ rfl 33 _ (0,0) _ HS.out.key Tryz.underlying33 rfl (info8'.trans rfl) ?_)
      | (go_at_call 22;(with_reducible refine (KK.out _ HS.out.bel).mono ?_);rintro e w1 ⟨rfl,hb1⟩;have HS1:=Lib.hid (HS.out.next hb1);clear hb1)
      | (go_at_call 23;(with_reducible refine (KF.out _ HS1.out.att).mono ?_);rintro e w2 ⟨rfl,rfl⟩))
     go_ret2
     exact ⟨by rw [HE.out];rfl,HS1.out.bel⟩
   · have HE:=Lib.hid (msgS_ok (m:=m) (se:=se) (ha:=ha) (at_:=at_) (rs:=rs) hv)
     rw [hv] at KF
     obtain ⟨v1,v2,v3⟩:=hPv hkey.p0
     have KT:=Lib.hid (fun (wq : World) (h1 : Below w.heap.size w wq)=>r30_fits ch sl mm mo mg mh wm wo wg wh se at_ ha el es bl ma nm m o z s u h A A2 n n2 c c2 rs ats wq hn hn2 hm hm2 (hs.below h1 |>.more h1.size) (hs2.below h1 |>.more h1.size) hv v1 v2 v3)
     obtain ⟨F,hF⟩ : ∃ F,attE se ha at_ rs ats=F:=⟨_,rfl⟩
     have hmA : msgA m se ha at_ rs ats=if F=0 then (B (msgV m rs ats),0) else (⟨#[]⟩,F):=by unfold msgA;rw [hF]
     rw [hF] at KT
     by_cases hf : F=0
     · subst hf
       have hlen : n2=n:=by
        by_cases hq : ats.length=rs.length
        · omega
        · rw [attE_many hq] at hF;exact absurd hF (by decide)
       subst hlen
       have KPr:=Lib.hid (fun (wq : World) (h1 : Below w.heap.size w wq)=>r30_Product nm m o z s u h A A2 n2 c c2 rs ats wq sm hkey.hg hkey.hrs hv hn hn2 hm hkey.two (hs.below h1 |>.more h1.size) (hs2.below h1 |>.more h1.size))
       have HE2:=Lib.hid (HE.out.trans (hmA.trans (if_pos rfl)))
       clear hv hkey hs hs2 hPv hP sm snm hn hn2 v1 v2 v3 hF hmA
       go_enter Tryz.func9, Tryz.ntmps9
       go_wp2_with (first
        | (refine wpList_load_row rfl 30 _ rfl _ rfl 30 _ (0,0) _ HS.out.par Tryz.underlying30 rfl (info17'.trans rfl) ?_)
        | (refine wpList_load_row rfl 33 _ rfl _ rfl 33 _ (0,0) _ HS.out.key Tryz.underlying33 rfl (info8'.trans rfl) ?_)
        | (go_at_call 22;(with_reducible refine (KK.out _ HS.out.bel).mono ?_);rintro e w1 ⟨rfl,hb1⟩;have HS1:=Lib.hid (HS.out.next hb1);clear hb1)
        | (go_at_call 23;(with_reducible refine (KF.out _ HS1.out.att).mono ?_);rintro e w2 ⟨rfl,rfl⟩)
        | (refine wpList_load_row rfl 30 _ rfl _ rfl 30 _ (0,0) _ HS1.out.par Tryz.underlying30 rfl (info17'.trans rfl) ?_)
        | (refine wpList_load_row rfl 33 _ rfl _ rfl 33 _ (0,0) _ HS1.out.key Tryz.underlying33 rfl (info8'.trans rfl) ?_)
        | (go_at_call 24;(with_reducible refine (KT.out _ HS1.out.bel).mono ?_);rintro e w3 ⟨rfl,hb3⟩;have HS3:=Lib.hid (HS1.out.next hb3);clear hb3)
        | (refine wpList_load_row rfl 33 _ rfl _ rfl 33 _ (0,0) _ HS3.out.key Tryz.underlying33 rfl (info8'.trans rfl) ?_)
        | (go_at_call 25;(with_reducible refine (KPr.out _ HS3.out.bel).mono ?_);rintro e w4 ⟨rfl,hb4⟩;have HS4:=Lib.hid (HS3.out.next hb4);clear hb4))
       go_ret2
       exact ⟨by rw [HE2.out];rfl,HS4.out.bel⟩
     · have HE2:=Lib.hid (HE.out.trans (hmA.trans (if_neg hf)))
       have pf : (F != 0)=true:=by simpa using hf
       clear hv hkey hs hs2 hPv hP sm snm hn hn2 v1 v2 v3 hF hmA hf
       go_enter Tryz.func9, Tryz.ntmps9
       go_wp2_with (first
        | (refine wpList_load_row rfl 30 _ rfl _ rfl 30 _ (0,0) _ HS.out.par Tryz.underlying30 rfl (info17'.trans rfl) ?_)
        | (refine wpList_load_row rfl 33 _ rfl _ rfl 33 _ (0,0) _ HS.out.key Tryz.underlying33 rfl (info8'.trans rfl) ?_)
        | (go_at_call 22;(with_reducible refine (KK.out _ HS.out.bel).mono ?_);rintro e w1 ⟨rfl,hb1⟩;have HS1:=Lib.hid (HS.out.next hb1);clear hb1)
        | (go_at_call 23;(with_reducible refine (KF.out _ HS1.out.att).mono ?_);rintro e w2 ⟨rfl,rfl⟩)
        | (refine wpList_load_row rfl 30 _ rfl _ rfl 30 _ (0,0) _ HS1.out.par Tryz.underlying30 rfl (info17'.trans rfl) ?_)
        | (refine wpList_load_row rfl 33 _ rfl _ rfl 33 _ (0,0) _ HS1.out.key Tryz.underlying33 rfl (info8'.trans rfl) ?_)
        | (go_at_call 24;(with_reducible refine (KT.out _ HS1.out.bel).mono ?_);rintro e w3 ⟨rfl,hb3⟩;have HS3:=Lib.hid (HS1.out.next hb3);clear hb3))
       go_ret2
       exact ⟨by rw [HE2.out];rfl,HS3.out.bel⟩
 · have HE : Hid (msgS K m se ha at_ rs ats=(⟨#[]⟩,K)):=Lib.hid (msgS_key h0)
   have p0 : (K != 0)=true:=by simpa using h0
   clear h0 HZ hs hs2 hPv hP sm snm hn hn2
   go_enter Tryz.func9, Tryz.ntmps9
   go_wp2_with (first
    | (refine wpList_load_row rfl 30 _ rfl _ rfl 30 _ (0,0) _ HS.out.par Tryz.underlying30 rfl (info17'.trans rfl) ?_)
    | (refine wpList_load_row rfl 33 _ rfl _ rfl 33 _ (0,0) _ HS.out.key Tryz.underlying33 rfl (info8'.trans rfl) ?_)
    | (go_at_call 22;(with_reducible refine (KK.out _ HS.out.bel).mono ?_);rintro e w1 ⟨rfl,hb1⟩;have HS1:=Lib.hid (HS.out.next hb1);clear hb1))
   go_ret2
   exact ⟨by rw [HE.out];rfl,HS1.out.bel⟩
end Go.Proofs.YtjkccbpmlapgcaaGreatDoor
