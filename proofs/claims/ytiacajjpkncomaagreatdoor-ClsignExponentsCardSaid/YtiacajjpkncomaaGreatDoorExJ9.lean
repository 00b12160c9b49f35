/- The walks of package clsign: formed, goodTape, integer, minus, message, Message. The walks of clsign.message and clsign.Message. The walk of clsign.Message, over a contract of params.Check given as a hypothesis. -/
import Derived.Test.YtiacajjpkncomaaGreatDoorExKd
import Derived.Test.YtiacajjpkncomaaGreatDoorExKf
namespace Go.Proofs.YtiacajjpkncomaaGreatDoor
open Go.RowKit
set_option maxRecDepth 100000
set_option linter.unusedVariables false
set_option maxHeartbeats 4000000
theorem cl_formed1 (s:ByteArray) (w:World):Calls Tryz.prog 83 #[.string s] w fun e w'=>e=.returned (.bool (!valid s))∧w=w':=by
 go_enter Tryz.func83, Tryz.ntmps83
 go_wp2_with (go_at_call 46;refine (natural_Valid _ _).mono ?_;rintro e w' ⟨rfl,rfl⟩);go_ret;exact ⟨rfl,rfl⟩
theorem cl_index (ls:List ByteArray) (A:Option Addr) (n c b:Nat) (w:World) (hn:ls.length=n) (hm:n≤100000) (h:SLs w b A ls) :
  Calls Tryz.prog 136 #[.slice A n c,.func (.func 83) #[] #[]] w fun e w'=>(∃ z:Int,e=.returned (.int .i64 z)∧decide (0≤z)=!(ls.all valid))∧w=w':=by
 have HN:=Lib.hid hn;have HS:=Lib.hid h;clear hn h
 go_enter Tryz.func136, Tryz.ntmps136
 go_wp2;go_loop [8] (fun v=>∃ k:Nat,k≤n∧v=.int .i64 k∧∀ j,j<k→valid (ls.getD j ByteArray.empty)=true) (fun v=>n-(intOf v).toNat)
 case atStart=>exact ⟨0,by omega,rfl,fun j h=>absurd h (by omega)⟩
 case round =>
  obtain ⟨k,hk,rfl,hall⟩:=hrel;have HA:=Lib.hid hall;clear hall;by_cases hlt:k<n
  · obtain ⟨ad,rfl,hc⟩:=HS.out.at_ (k:=k) (by rw [HN.out];exact hlt)
    obtain ⟨s,hs⟩:∃ s,ls.getD k ByteArray.empty=s:=⟨_,rfl⟩;rw [hs] at hc;have HSS:=Lib.hid hs;clear hs
    cases hv:valid s
    · have HF:Hid (ls.all valid=false):=Lib.hid (ls_all_not (k:=k) (by rw [HN.out];exact hlt) (by rw [HSS.out];exact hv))
      have hck:=cl_formed1 s;rw [hv] at hck;have HCK:=Lib.hid hck;clear hck hv;go_wp2_with (go_at_call 83;refine (HCK.out _).mono ?_;rintro e w' ⟨rfl,rfl⟩);go_ret;refine ⟨⟨(k:Int),rfl,?_⟩,rfl⟩;rw [HF.out];simp
    · have HV:=Lib.hid hv
      clear hv;have hck:=cl_formed1 s;rw [HV.out] at hck;have HCK:=Lib.hid hck;clear hck;go_wp2_with (go_at_call 83;refine (HCK.out _).mono ?_;rintro e w' ⟨rfl,rfl⟩);go_round
      case rel=>exact ⟨k+1,by omega,by go_num,fun j hj=>by
       by_cases e:j=k
       · subst e;rw [HSS.out];exact HV.out
       · exact HA.out j (by omega)⟩
      case measure=>simp [intOf];omega
  · obtain rfl:k=n:=by omega
    have HF:Hid (ls.all valid=true):=Lib.hid (ls_all_of (fun j hj=>HA.out j (by rw [HN.out] at hj;exact hj)));go_wp2;go_ret;refine ⟨⟨-1,rfl,?_⟩,rfl⟩;rw [HF.out];rfl
theorem cl_contains (ls:List ByteArray) (A:Option Addr) (n c b:Nat) (w:World) (hn:ls.length=n) (hm:n≤100000) (h:SLs w b A ls) :
  Calls Tryz.prog 82 #[.slice A n c,.func (.func 83) #[] #[]] w fun e w'=>e=.returned (.bool (!(ls.all valid)))∧w=w':=by
 have H:=Lib.hid (cl_index ls A n c b w hn hm h);clear h
 go_enter Tryz.func82, Tryz.ntmps82
 go_wp2_with (go_at_call 136;refine H.out.mono ?_;rintro e w' ⟨⟨z,rfl,hz⟩,rfl⟩;have HZ:=Lib.hid hz;clear hz);go_ret;exact ⟨ret_bool HZ.out,rfl⟩
theorem cl_formed (ls:List ByteArray) (A:Option Addr) (n c b:Nat) (w:World) (hn:ls.length=n) (hm:n≤100000) (h:SLs w b A ls) :
  Calls Tryz.prog 34 #[.slice A n c] w fun e w'=>e=.returned (.bool (ls.all valid))∧w=w':=by
 have H:=Lib.hid (cl_contains ls A n c b w hn hm h);obtain ⟨bv,hb⟩:∃ bv,ls.all valid=bv:=⟨_,rfl⟩;rw [hb] at H ⊢;clear hb hn h
 go_enter Tryz.func34, Tryz.ntmps34
 go_wp2_with (go_at_call 82;refine H.out.mono ?_;rintro e w' ⟨rfl,rfl⟩);go_ret;exact ⟨ret_bool (by cases bv<;>rfl),rfl⟩
theorem cl_integer (x:ByteArray) (w:World):Calls Tryz.prog 38 #[.string x] w fun e w'=>e=.returned (.agg #[.bool false,.string x])∧Below w.heap.size w w':=by
 go_enter Tryz.func38, Tryz.ntmps38
 go_wp2;exact bodyPost_ret (v:=.agg #[.bool false,.string x]) (by simp [results,Tryz.results38,go_sem]) rfl ⟨rfl,(Below.refl _ _).alloc (Nat.le_refl _) _⟩
theorem cl_minus (x:ByteArray) (w:World):Calls Tryz.prog 39 #[.string x] w fun e w'=>e=.returned (.agg #[.bool (!x.toList.isEmpty),.string x])∧Below w.heap.size w w':=by
 cases h:x.toList.isEmpty
 · go_enter Tryz.func39, Tryz.ntmps39
   go_wp2;exact bodyPost_ret (v:=.agg #[.bool true,.string x]) (by simp [results,Tryz.results39,go_sem]) rfl ⟨rfl,(Below.refl _ _).alloc (Nat.le_refl _) _⟩
 · go_enter Tryz.func39, Tryz.ntmps39
   go_wp2;exact bodyPost_ret (v:=.agg #[.bool false,.string x]) (by simp [results,Tryz.results39,go_sem]) rfl ⟨rfl,(Below.refl _ _).alloc (Nat.le_refl _) _⟩
theorem cl_goodTape (vals:List ByteArray) (A:Option Addr) (n c:Nat) (seed:ByteArray) (z:Int) (w:World) (hn:vals.length=n) (hm:n≤100000) (h:SLs w w.heap.size A vals) :
  Calls Tryz.prog 20 #[.agg #[.slice A n c,.string seed,.int .i64 z]] w fun e w'=>e=.returned (.bool (goodT vals z))∧Below w.heap.size w w':=by
 have hb:Below w.heap.size w (w.alloc (.cells #[.slice A n c,.string seed,.int .i64 z] 39)):=(Below.refl _ _).alloc (Nat.le_refl _) _;have H:=cl_formed vals A n c w.heap.size _ hn hm (h.below hb);have HB:=Lib.hid hb;have hr:goodT vals z=(decide (0≤z)&&(decide (z≤2147483647)&&vals.all valid)):=rfl;rw [hr];obtain ⟨bv,hbv⟩:∃ bv,vals.all valid=bv:=⟨_,rfl⟩;rw [hbv] at H ⊢;clear hbv hn h hb hr
 cases bv
 · have H:=Lib.hid H
   go_enter Tryz.func20, Tryz.ntmps20
   go_wp2_with (go_at_call 34;refine H.out.mono ?_;rintro e w' ⟨rfl,rfl⟩);go_ret;exact ⟨ret_bool (by simp),HB.out⟩
 · have H:=Lib.hid H
   by_cases h0:0≤z
   · by_cases h1:z≤2147483647
     · have p0:decide ((0:Int)≤z)=true:=decide_eq_true h0
       have p1:decide (z≤(2147483647:Int))=true:=decide_eq_true h1;rw [p0,p1];clear h0 h1
       go_enter Tryz.func20, Tryz.ntmps20
       go_wp2_with (go_at_call 34;refine H.out.mono ?_;rintro e w' ⟨rfl,rfl⟩);go_ret;exact ⟨rfl,HB.out⟩
     · have p0:decide ((0:Int)≤z)=true:=decide_eq_true h0
       have p1:decide (z≤(2147483647:Int))=false:=decide_eq_false h1;rw [p0,p1];clear h0 h1
       go_enter Tryz.func20, Tryz.ntmps20
       go_wp2_with (go_at_call 34;refine H.out.mono ?_;rintro e w' ⟨rfl,rfl⟩);go_ret;exact ⟨rfl,HB.out⟩
   · have p0:decide ((0:Int)≤z)=false:=decide_eq_false h0
     rw [p0];clear h0
     go_enter Tryz.func20, Tryz.ntmps20
     go_wp2_with (go_at_call 34;refine H.out.mono ?_;rintro e w' ⟨rfl,rfl⟩);go_ret;exact ⟨rfl,HB.out⟩
theorem attE_many {se ha at_:ByteArray} {rs ats:List ByteArray} (h:ats.length≠rs.length):attE se ha at_ rs ats=6:=by unfold attE;rw [if_neg h]
theorem attE_range {se ha at_:ByteArray} {rs ats:List ByteArray} {k:Nat} (h:ats.length=rs.length) (hk:k<ats.length) (hx:¬ num (ats.getD k ByteArray.empty)<num (limS se ha at_ k)):attE se ha at_ rs ats=2:=by
 unfold attE;rw [if_pos h,if_neg];intro ha;rw [List.all_eq_true] at ha;exact hx (of_decide_eq_true (ha k (by simpa using hk)))
theorem attE_ok {se ha at_:ByteArray} {rs ats:List ByteArray} (h:ats.length=rs.length) (hx:∀ k,k<ats.length→num (ats.getD k ByteArray.empty)<num (limS se ha at_ k)):attE se ha at_ rs ats=0:=by
 unfold attE;rw [if_pos h,if_pos];rw [List.all_eq_true];intro k hk;exact decide_eq_true (hx k (by simpa using hk))
def posZ (ats:List ByteArray):List (Bool × ByteArray):=ats.map fun x=>(false,x)
theorem posZ_length (ats:List ByteArray):(posZ ats).length=ats.length:=by simp [posZ]
theorem posZ_getD {ats:List ByteArray} {k:Nat} (hk:k<ats.length):(posZ ats).getD k z0=(false,ats.getD k ByteArray.empty):=by
 rw [List.getD_eq_getElem?_getD,List.getElem?_eq_getElem (by rw [posZ_length];exact hk),sgetD_lt hk];simp [posZ]
theorem posZ_ok {ats:List ByteArray} (h:ats.all valid=true):zOk (posZ ats):=by
 intro e he;unfold posZ at he;rw [List.mem_map] at he;obtain ⟨x,hx,rfl⟩:=he;exact ⟨List.all_eq_true.1 h x hx,rfl⟩
theorem posZ_take_succ {ats:List ByteArray} {k:Nat} (hk:k<ats.length):posZ (ats.take (k+1))=posZ (ats.take k)++[(false,ats.getD k ByteArray.empty)]:=by
 rw [List.take_succ_eq_append_getElem hk,sgetD_lt hk];unfold posZ;rw [List.map_append];rfl
theorem zipB_pos (M:Nat) (rs ats:List ByteArray) (h:ats.length=rs.length):zipB M rs (posZ ats)=zipE rs ats:=by
 unfold zipB zipE;apply List.ext_getElem
 · simp [h]
 · intro i h1 h2
   have hi:i<rs.length:=by simpa using h1
   simp only [List.getElem_map,List.getElem_range,List.getElem_zipWith];unfold bvN;rw [posZ_getD (by omega),sgetD_lt hi,sgetD_lt (by omega:i<ats.length)];rfl
theorem gcd_of_has {m o x:ByteArray} (ho:o.toList.isEmpty=true) (h:hasG m o x=true):Nat.gcd (num x) (num m)=1:=by
 unfold hasG at h;rw [if_pos ho] at h;unfold hasS at h;simp only [Bool.and_eq_true,decide_eq_true_eq] at h;exact h.2
structure MsAt (w:World) (cs:Array Value) (nm m o z s u h:ByteArray) (A A2:Option Addr) (n c:Nat) (rs ats:List ByteArray) (l0 l1 l2:ByteArray) (W:World):Prop where
 par:W.heap[w.heap.size]?=some (.cells cs 30 (0,0))
 key:W.heap[w.heap.size+1]?=some (.cells #[.string nm,.string m,.string o,.string z,.string s,.slice A n c,.string u,.string h] 33 (0,0))
 lim0:W.cell? ⟨w.heap.size+1+1,0,none⟩=some (.string l0)
 lim1:W.cell? ⟨w.heap.size+1+1,1,none⟩=some (.string l1)
 lim2:W.cell? ⟨w.heap.size+1+1,2,none⟩=some (.string l2)
 row:SLs W w.heap.size A rs
 att:SLs W w.heap.size A2 ats
 sz:w.heap.size+3≤W.heap.size
 bel:Below w.heap.size w W
theorem MsAt.next {w:World} {cs:Array Value} {nm m o z s u h:ByteArray} {A A2:Option Addr} {n c:Nat} {rs ats:List ByteArray} {l0 l1 l2:ByteArray} {W W':World} (k:MsAt w cs nm m o z s u h A A2 n c rs ats l0 l1 l2 W) {Bx:Nat} (hb:Below Bx W W') (hB:w.heap.size+3≤Bx):MsAt w cs nm m o z s u h A A2 n c rs ats l0 l1 l2 W' :=
 ⟨(hb.block _ (by omega)).trans k.par,(hb.block _ (by omega)).trans k.key,(hb.cell (p:=⟨w.heap.size+1+1,0,none⟩) (by show w.heap.size+1+1<Bx;omega)).trans k.lim0,(hb.cell (p:=⟨w.heap.size+1+1,1,none⟩) (by show w.heap.size+1+1<Bx;omega)).trans k.lim1,(hb.cell (p:=⟨w.heap.size+1+1,2,none⟩) (by show w.heap.size+1+1<Bx;omega)).trans k.lim2,
   k.row.next (by omega:w.heap.size≤Bx) hb,k.att.next (by omega:w.heap.size≤Bx) hb,Nat.le_trans k.sz hb.size,k.bel.trans (hb.mono (by omega))⟩
theorem MsAt.kcells {w:World} {cs:Array Value} {nm m o z s u h:ByteArray} {A A2:Option Addr} {n c:Nat} {rs ats:List ByteArray} {l0 l1 l2:ByteArray} {W:World} (k:MsAt w cs nm m o z s u h A A2 n c rs ats l0 l1 l2 W) :
  W.cell? ⟨w.heap.size+1,1,none⟩=some (.string m)∧W.cell? ⟨w.heap.size+1,2,none⟩=some (.string o)∧W.cell? ⟨w.heap.size+1,5,none⟩=some (.slice A n c):=by
 refine ⟨?_,?_,?_⟩<;>simp [World.cell?,k.key]
theorem MsAt.start (w:World) (cs:Array Value) (nm m o z s u h:ByteArray) (A A2:Option Addr) (n c:Nat) (rs ats:List ByteArray) (l0 l1 l2:ByteArray) (T:TypeId) (h1:SLs w w.heap.size A rs) (h2:SLs w w.heap.size A2 ats) :
  MsAt w cs nm m o z s u h A A2 n c rs ats l0 l1 l2 (((w.alloc (.cells cs 30)).alloc (.cells #[.string nm,.string m,.string o,.string z,.string s,.slice A n c,.string u,.string h] 33)).alloc (.cells #[.string l0,.string l1,.string l2] T)):=by
 have hb:Below w.heap.size w (((w.alloc (.cells cs 30)).alloc (.cells #[.string nm,.string m,.string o,.string z,.string s,.slice A n c,.string u,.string h] 33)).alloc (.cells #[.string l0,.string l1,.string l2] T)):=(((Below.refl _ _).alloc (Nat.le_refl _) _).alloc (by simp) _).alloc (by simp;omega) _;have h0:=heap_alloc_new w (.cells cs 30);have h1':=heap_alloc_new (w.alloc (.cells cs 30)) (.cells #[.string nm,.string m,.string o,.string z,.string s,.slice A n c,.string u,.string h] 33);rw [World.size_alloc] at h1';exact ⟨(heap_alloc_old _ _ (by simp;omega)).trans ((heap_alloc_old _ _ (by simp)).trans h0),(heap_alloc_old _ _ (by simp)).trans h1',by simp [go_sem],by simp [go_sem],by simp [go_sem],h1.below hb,h2.below hb,by simp,hb⟩
theorem cmp_ge {a b:ByteArray} (ha:valid a=true) (hb:valid b=true):decide ((0:Int)≤natCmp a b)=!decide (num a<num b):=by
 unfold natCmp cmpN;rw [ha,hb];by_cases h1:num a<num b
 · simp [h1]
 · by_cases h2:num a=num b<;>simp [h1,h2]
theorem min_cases (se ha at_:ByteArray) (k:Nat):(min (k:Int) 2=0∧limS se ha at_ k=se)∨(min (k:Int) 2=1∧limS se ha at_ k=ha)∨(min (k:Int) 2=2∧limS se ha at_ k=at_):=by
 unfold limS;by_cases h0:k=0
 · exact .inl ⟨by omega,if_pos h0⟩
 · by_cases h1:k=1
   · exact .inr (.inl ⟨by omega,by rw [if_neg h0,if_pos h1]⟩)
   · exact .inr (.inr ⟨by omega,by rw [if_neg h0,if_neg h1]⟩)
def msgA (m se ha at_:ByteArray) (rs ats:List ByteArray):ByteArray × Int:=if attE se ha at_ rs ats=0 then (B (msgV m rs ats),0) else (⟨#[]⟩,attE se ha at_ rs ats)
theorem cl_message (ch sl mm mo mg mh wm wo wg wh se at_ ha el es bl ma nm m o z s u h:ByteArray) (A A2:Option Addr) (n n2 c c2:Nat) (rs ats:List ByteArray) (w:World) (sm:m.size≤8) (hg:groupE m o=0) (ho:o.toList.isEmpty=true) (h2M:2≤num m) (hrs:rs.all (hasG m o)=true)
  (hn:rs.length=n) (hn2:ats.length=n2) (hm:n≤1000) (hm2:n2≤1000) (hs:SLs w w.heap.size A rs) (hs2:SLs w w.heap.size A2 ats) (hva:ats.all valid=true) (hse:valid se=true) (hha:valid ha=true) (hat:valid at_=true) :
  Calls Tryz.prog 35 #[.agg #[.string ch,.string sl,.string mm,.string mo,.string mg,.string mh,.string wm,.string wo,.string wg,.string wh,.string se,.string at_,.string ha,.string el,.string es,.string bl,.string ma],
   .agg #[.string nm,.string m,.string o,.string z,.string s,.slice A n c,.string u,.string h],.slice A2 n2 c2] w fun e w'=>e=.returned (.tuple #[.string (msgA m se ha at_ rs ats).1,.int .i64 (msgA m se ha at_ rs ats).2])∧Below w.heap.size w w':=by
 have HS:=Lib.hid (MsAt.start w #[.string ch,.string sl,.string mm,.string mo,.string mg,.string mh,.string wm,.string wo,.string wg,.string wh,.string se,.string at_,.string ha,.string el,.string es,.string bl,.string ma] nm m o z s u h A A2 n c rs ats se ha at_ 124 hs hs2);by_cases hl:n2=n
 · subst hl
   have HN:=Lib.hid hn;have HN2:=Lib.hid hn2;have HL:Hid (ats.length=rs.length):=Lib.hid (hn2.trans hn.symm);have HM:=Lib.hid hm;have HVA:=Lib.hid hva;have HV3:=Lib.hid (And.intro hse (And.intro hha hat));have KC:=Lib.hid (fun a b w=>natural_Cmp a b w);have KI:=Lib.hid (fun x w=>cl_integer x w);have KP:=Lib.hid (fun (wq:World) A3 c3 (h1:SLs wq wq.heap.size A rs) (h2:ZLs wq wq.heap.size A3 (posZ ats))=>power_ProductN m o rs (posZ ats) A A3 n2 c c3 wq sm hg hrs (posZ_ok hva) (fun r hr=>gcd_of_has ho (List.all_eq_true.1 hrs r hr)) hn (by rw [posZ_length];exact hn2) hm h2M h1 h2);rw [zipB_pos _ _ _ HL.out] at KP;obtain ⟨W0,hW0⟩:∃ W0,((w.alloc (.cells #[.string ch,.string sl,.string mm,.string mo,.string mg,.string mh,.string wm,.string wo,.string wg,.string wh,.string se,.string at_,.string ha,.string el,.string es,.string bl,.string ma] 30)).alloc (.cells #[.string nm,.string m,.string o,.string z,.string s,.slice A n2 c,.string u,.string h] 33)).alloc (.cells #[.string se,.string ha,.string at_] 124)=W0:=⟨_,rfl⟩;have p0:((n2:Int) != (n2:Int))=false:=by simp
   clear hs hs2 hg ho h2M hrs hn hn2 hva hse hha hat sm hm
   go_enter Tryz.func35, Tryz.ntmps35
   go_wp2;have p1:=HS.out;rw [hW0] at p1;have HSW:=Lib.hid p1;clear hW0 p1 HS;go_loopw [9,27] (fun v i wr=>∃ (k:Nat) (A3:Option Addr) (c3:Nat),i=.int .i64 k∧k≤n2∧v=.slice A3 k c3∧OwnZ wr (w.heap.size+3) (.slice A3 k c3) k (posZ (ats.take k))∧(∀ j,j<k→num (ats.getD j ByteArray.empty)<num (limS se ha at_ j))∧MsAt w #[.string ch,.string sl,.string mm,.string mo,.string mg,.string mh,.string wm,.string wo,.string wg,.string wh,.string se,.string at_,.string ha,.string el,.string es,.string bl,.string ma] nm m o z s u h A A2 n2 c rs ats se ha at_ wr) (fun _ i _=>n2-(intOf i).toNat)
   case atStart=>exact ⟨0,none,0,rfl,Nat.zero_le _,rfl,OwnZ.nil_ _ _,fun j hj=>absurd hj (Nat.not_lt_zero j),HSW.out⟩
   case round =>
    obtain ⟨k,A3,c3,rfl,hk,rfl,how,hall,hat⟩:=hrel;have HOW:=Lib.hid how;have HALL:=Lib.hid hall;have HAT:=Lib.hid hat;clear how hall hat;by_cases hlt:k<n2
    · obtain ⟨ad,rfl,hc⟩:=HAT.out.att.at_ (k:=k) (by rw [HN2.out];exact hlt)
      have vx:=al_at HVA.out (k:=k) (by rw [HN2.out];exact hlt);have hts:=posZ_take_succ (ats:=ats) (k:=k) (by rw [HN2.out];exact hlt);obtain ⟨x,hx⟩:∃ x,ats.getD k ByteArray.empty=x:=⟨_,rfl⟩;rw [hx] at hc vx hts;have HTS:=Lib.hid hts;have HX:=Lib.hid hx;have hl0:=HAT.out.lim0;have hl1:=HAT.out.lim1;have hl2:=HAT.out.lim2
      obtain ⟨l,i,hmin,hlim,hlc,vl⟩:∃ (l:ByteArray) (i:Nat),min (k:Int) 2=(i:Int)∧limS se ha at_ k=l∧(i=0∧l=se∨i=1∧l=ha∨i=2∧l=at_)∧valid l=true:=by
       rcases min_cases se ha at_ k with ⟨h1,h2⟩|⟨h1,h2⟩|⟨h1,h2⟩
       · exact ⟨se,0,h1,h2,.inl ⟨rfl,rfl⟩,HV3.out.1⟩
       · exact ⟨ha,1,h1,h2,.inr (.inl ⟨rfl,rfl⟩),HV3.out.2.1⟩
       · exact ⟨at_,2,h1,h2,.inr (.inr ⟨rfl,rfl⟩),HV3.out.2.2⟩
      have hcg:=cmp_ge vx vl;have KCx:=Lib.hid (KC.out x l);obtain ⟨cv,hcv⟩:∃ cv,natCmp x l=cv:=⟨_,rfl⟩;rw [hcv] at hcg KCx;have HLIM:=Lib.hid hlim;have HLT:=Lib.hid hlt;by_cases hxl:num x<num l
      · rw [decide_eq_true hxl] at hcg
        have HXL:=Lib.hid hxl;have hk3:w.heap.size+3≤wr.heap.size:=HAT.out.sz;have HK3:=Lib.hid hk3;have HKL:Hid (k≤100000):=Lib.hid (by have:=HM.out;omega)
        rcases hlc with ⟨rfl,rfl⟩|⟨rfl,rfl⟩|⟨rfl,rfl⟩
        all_goals
         clear hx hts hcv hlim hxl hlt hk vx vl hk3
         go_wp2_with (first
          | (go_at_call 43;(with_reducible refine (KCx.out _).mono ?_);rintro e w' ⟨rfl,rfl⟩)
          | (go_at_call 38;(with_reducible refine (KI.out x _).mono ?_);rintro e w5 ⟨rfl,hb5⟩
             have HB5:=Lib.hid (hb5.alloc hb5.size (.cells #[.bool false,.string x] 88))
             clear hb5)
          | (at_builtin;refine wpList_append_Z rfl (.tmp 39) (.tmp 42) rfl (w.heap.size+3) (.slice A3 k c3) k (posZ (ats.take k)) rfl (HOW.out.kept HB5.out) w5.heap.size 1 (false,x) rfl (by simp [go_sem]) (by simp [go_sem]) (by simp) HKL.out (Nat.le_trans HK3.out HB5.out.size) ?_
             intro v7 w7 hown7 hb7;obtain ⟨A7,c7,rfl,_⟩:=hown7.form;have HOW7:=Lib.hid hown7;have HAT7:=Lib.hid ((HAT.out.next HB5.out HK3.out).next hb7 (Nat.le_refl _))
             clear hown7 hb7))
         go_roundw
         case rel=>exact ⟨k+1,A7,c7,rfl,HLT.out,rfl,by rw [HTS.out];exact HOW7.out,fun j hj=>by
          rcases Nat.lt_or_ge j k with h1|h1
          · exact HALL.out j h1
          · obtain rfl:j=k:=by omega
            rw [HX.out,HLIM.out];exact HXL.out,HAT7.out⟩
         case measure=>have:=HLT.out;simp [intOf];omega
      · rw [decide_eq_false hxl] at hcg
        have HE:Hid (msgA m se ha at_ rs ats=(⟨#[]⟩,2)):=Lib.hid (by
         have h2:=attE_range (se:=se) (ha:=ha) (at_:=at_) HL.out (k:=k) (by rw [HN2.out];exact hlt) (by rw [hx,hlim];exact hxl);unfold msgA
         rw [h2,if_neg (by decide)])
        rcases hlc with ⟨rfl,rfl⟩|⟨rfl,rfl⟩|⟨rfl,rfl⟩
        all_goals
         clear hx hts hcv hlim hxl hlt hk vx vl;go_wp2_with (go_at_call 43;(with_reducible refine (KCx.out _).mono ?_);rintro e w' ⟨rfl,rfl⟩);go_ret2;exact ⟨by rw [HE.out];rfl,HAT.out.bel⟩
    · obtain rfl:k=n2:=by omega
      have HE:Hid (msgA m se ha at_ rs ats=(B (msgV m rs ats),0)):=Lib.hid (by
       have h0:=attE_ok (se:=se) (ha:=ha) (at_:=at_) HL.out (fun j hj=>HALL.out j (by rw [HN2.out] at hj;exact hj));unfold msgA
       rw [if_pos h0])
      obtain ⟨A5,c5,he5,hz5⟩:=HOW.out.form;injection he5 with e1 e2 e3
      subst e1;rw [List.take_of_length_le (by rw [HN2.out];exact Nat.le_refl _)] at hz5;have KPx:=Lib.hid (KP.out _ A3 c3 (HAT.out.row.more HAT.out.bel.size) hz5);obtain ⟨k1,k2,k5⟩:=HAT.out.kcells;clear e2 e3 hz5 hlt hk
      go_wp2_with (go_at_call 37;(with_reducible refine KPx.out.mono ?_);rintro e w6 ⟨rfl,hb6⟩
                   have HB6:=Lib.hid (HAT.out.bel.trans (hb6.mono HAT.out.bel.size))
                   clear hb6)
      go_ret2;exact ⟨by rw [HE.out];rfl,HB6.out⟩
 · have HE:Hid (msgA m se ha at_ rs ats=(⟨#[]⟩,6)):=Lib.hid (by
    have h6:=attE_many (se:=se) (ha:=ha) (at_:=at_) (rs:=rs) (ats:=ats) (by omega);unfold msgA
    rw [h6,if_neg (by decide)])
   have p0:((n2:Int) != (n:Int))=true:=by rw [bne_iff_ne];omega
   clear hl hs hs2 hg ho h2M hrs hn hn2 hva hse hha hat sm hm HS
   go_enter Tryz.func35, Tryz.ntmps35
   go_wp2;go_ret2;exact ⟨by rw [HE.out];rfl,((Below.refl _ _).alloc (Nat.le_refl _) _).alloc (by simp) _⟩
structure KeyOk (P:Int) (nm m o z s u h:ByteArray) (rs:List ByteArray):Prop where
 p0:P=0
 hg:groupE m o=0
 ho:o.toList.isEmpty=true
 hs:hasG m o s=true
 hz:hasG m o z=true
 hu:hasG m o u=true
 hh:hasG m o h=true
 hrs:rs.all (hasG m o)=true
 len:2≤rs.length∧rs.length≤18
 two:2≤num m
theorem keyE_zero {P:Int} {nm m o z s u h:ByteArray} {rs:List ByteArray} (h0:keyE P nm m o z s u h rs=0):KeyOk P nm m o z s u h rs:=by
 by_cases hP:P=0
 · subst hP
   unfold keyE at h0;rw [if_pos rfl] at h0
   split at h0
   · split at h0
     · split at h0
       · rename_i hgo
         split at h0
         · rename_i hlen
           split at h0
           · rename_i hall
             rw [Bool.and_eq_true] at hall;have h2:=hall.2;simp only [List.all_cons,Bool.and_eq_true] at h2;exact ⟨rfl,hgo.2,hgo.1,h2.1,h2.2.1,h2.2.2.1,h2.2.2.2.1,h2.2.2.2.2,hlen,hasG_two hgo.2 h2.1⟩
           · exact absurd h0 (by decide)
         · exact absurd h0 (by decide)
       · exact absurd h0 (by decide)
     · exact absurd h0 (by decide)
   · exact absurd h0 (by decide)
 · rw [keyE_par hP] at h0
   exact absurd h0 hP
structure PkAt (w:World) (cs ks:Array Value) (A A2:Option Addr) (rs ats:List ByteArray) (W:World):Prop where
 par:W.heap[w.heap.size]?=some (.cells cs 30 (0,0))
 key:W.heap[w.heap.size+1]?=some (.cells ks 33 (0,0))
 row:SLs W w.heap.size A rs
 att:SLs W w.heap.size A2 ats
 bel:Below w.heap.size w W
theorem PkAt.lt {w:World} {cs ks:Array Value} {A A2:Option Addr} {rs ats:List ByteArray} {W:World} (k:PkAt w cs ks A A2 rs ats W):w.heap.size+1<W.heap.size:=(Array.getElem?_eq_some_iff.1 k.key).1
theorem PkAt.next {w:World} {cs ks:Array Value} {A A2:Option Addr} {rs ats:List ByteArray} {W W':World} (k:PkAt w cs ks A A2 rs ats W) (hb:Below W.heap.size W W'):PkAt w cs ks A A2 rs ats W':=by
 have l2:=k.lt;exact ⟨(hb.block _ (by omega)).trans k.par,(hb.block _ l2).trans k.key,k.row.below (hb.mono k.bel.size),k.att.below (hb.mono k.bel.size),k.bel.trans (hb.mono k.bel.size)⟩
theorem PkAt.start (w:World) (cs ks:Array Value) (A A2:Option Addr) (rs ats:List ByteArray) (h1:SLs w w.heap.size A rs) (h2:SLs w w.heap.size A2 ats) :
  PkAt w cs ks A A2 rs ats ((w.alloc (.cells cs 30)).alloc (.cells ks 33)):=by
 have hb:Below w.heap.size w ((w.alloc (.cells cs 30)).alloc (.cells ks 33)):=((Below.refl _ _).alloc (Nat.le_refl _) _).alloc (by simp) _;have h0:=heap_alloc_new w (.cells cs 30);have h1':=heap_alloc_new (w.alloc (.cells cs 30)) (.cells ks 33);rw [World.size_alloc] at h1';exact ⟨(heap_alloc_old _ _ (by simp)).trans h0,h1',h1.below hb,h2.below hb,hb⟩
theorem msgS_key {K:Int} {m se ha at_:ByteArray} {rs ats:List ByteArray} (h:K≠0):msgS K m se ha at_ rs ats=(⟨#[]⟩,K):=by unfold msgS;rw [if_neg h]
theorem msgS_form {m se ha at_:ByteArray} {rs ats:List ByteArray} (h:ats.all valid=false):msgS 0 m se ha at_ rs ats=(⟨#[]⟩,3):=by unfold msgS;rw [if_pos rfl,h,if_neg (by decide)]
theorem msgS_ok {m se ha at_:ByteArray} {rs ats:List ByteArray} (h:ats.all valid=true):msgS 0 m se ha at_ rs ats=msgA m se ha at_ rs ats:=by unfold msgS;rw [if_pos rfl,if_pos h];rfl
theorem cl_Message (P:Int) (ch sl mm mo mg mh wm wo wg wh se at_ ha el es bl ma nm m o z s u h:ByteArray) (A A2:Option Addr) (n n2 c c2:Nat) (rs ats:List ByteArray) (w:World) (sm:m.size≤8) (snm:nm.size≤100000)
  (hn:rs.length=n) (hn2:ats.length=n2) (hm:n≤1000) (hm2:n2≤1000) (hs:SLs w w.heap.size A rs) (hs2:SLs w w.heap.size A2 ats) (hPv:P=0→valid se=true∧valid ha=true∧valid at_=true)
  (hP:∀ wq,Below w.heap.size w wq→Calls Tryz.prog 19 #[.agg #[.string ch,.string sl,.string mm,.string mo,.string mg,.string mh,.string wm,.string wo,.string wg,.string wh,.string se,.string at_,.string ha,.string el,.string es,.string bl,.string ma]] wq fun e w'=>e=.returned (.int .i64 P)∧Below wq.heap.size wq w') :
  Calls Tryz.prog 14 #[.agg #[.string ch,.string sl,.string mm,.string mo,.string mg,.string mh,.string wm,.string wo,.string wg,.string wh,.string se,.string at_,.string ha,.string el,.string es,.string bl,.string ma],
   .agg #[.string nm,.string m,.string o,.string z,.string s,.slice A n c,.string u,.string h],.slice A2 n2 c2] w fun e w'=>e=.returned (.tuple #[.string (msgS (keyE P nm m o z s u h rs) m se ha at_ rs ats).1,.int .i64 (msgS (keyE P nm m o z s u h rs) m se ha at_ rs ats).2])∧Below w.heap.size w w':=by
 have HS0:=PkAt.start w #[.string ch,.string sl,.string mm,.string mo,.string mg,.string mh,.string wm,.string wo,.string wg,.string wh,.string se,.string at_,.string ha,.string el,.string es,.string bl,.string ma] #[.string nm,.string m,.string o,.string z,.string s,.slice A n c,.string u,.string h] A A2 rs ats hs hs2;have KK:=Lib.hid (fun (wq:World) (h1:Below w.heap.size w wq)=>iss_Check P ch sl mm mo mg mh wm wo wg wh se at_ ha el es bl ma nm m o z s u h A n c rs wq sm snm hn hm (hs.below h1 |>.more h1.size) (fun wq2 h2=>hP wq2 (h1.trans (h2.mono h1.size))));have KF:=Lib.hid (fun (wq:World) (h1:SLs wq w.heap.size A2 ats)=>cl_formed ats A2 n2 c2 w.heap.size wq hn2 (by omega) h1);have HZ:=Lib.hid (@keyE_zero P nm m o z s u h rs);obtain ⟨K,hK⟩:∃ K,keyE P nm m o z s u h rs=K:=⟨_,rfl⟩;rw [hK] at KK HZ ⊢;obtain ⟨W0,hW0⟩:∃ W0,(w.alloc (.cells #[.string ch,.string sl,.string mm,.string mo,.string mg,.string mh,.string wm,.string wo,.string wg,.string wh,.string se,.string at_,.string ha,.string el,.string es,.string bl,.string ma] 30)).alloc (.cells #[.string nm,.string m,.string o,.string z,.string s,.slice A n c,.string u,.string h] 33)=W0:=⟨_,rfl⟩;rw [hW0] at HS0;have HS:=Lib.hid HS0;clear HS0 hK;by_cases h0:K=0
 · subst h0
   have hkey:=HZ.out rfl
   cases hv:ats.all valid
   · have HE:Hid (msgS 0 m se ha at_ rs ats=(⟨#[]⟩,3)):=Lib.hid (msgS_form hv)
     rw [hv] at KF;clear hv hkey hs hs2 hPv hP sm snm hn hn2
     go_enter Tryz.func14, Tryz.ntmps14
     go_wp2_with (first
      | (refine wpList_load_row rfl 30 _ rfl _ rfl 30 _ (0,0) _ HS.out.par Tryz.underlying30 rfl (info17'.trans rfl) ?_)
      | (refine wpList_load_row rfl 33 _ rfl _ rfl 33 _ (0,0) _ HS.out.key Tryz.underlying33 rfl (info8'.trans rfl) ?_)
      | (go_at_call 33;(with_reducible refine (KK.out _ HS.out.bel).mono ?_);rintro e w1 ⟨rfl,hb1⟩;have HS1:=Lib.hid (HS.out.next hb1);clear hb1)
      | (go_at_call 34;(with_reducible refine (KF.out _ HS1.out.att).mono ?_);rintro e w2 ⟨rfl,rfl⟩))
     go_ret2;exact ⟨by rw [HE.out];rfl,HS1.out.bel⟩
   · have HE:=Lib.hid (msgS_ok (m:=m) (se:=se) (ha:=ha) (at_:=at_) (rs:=rs) hv)
     rw [hv] at KF;obtain ⟨v1,v2,v3⟩:=hPv hkey.p0;have KM:=Lib.hid (fun (wq:World) (h1:Below w.heap.size w wq)=>cl_message ch sl mm mo mg mh wm wo wg wh se at_ ha el es bl ma nm m o z s u h A A2 n n2 c c2 rs ats wq sm hkey.hg hkey.ho hkey.two hkey.hrs hn hn2 hm hm2 (hs.below h1 |>.more h1.size) (hs2.below h1 |>.more h1.size) hv v1 v2 v3);clear hv hkey hs hs2 hPv hP sm snm hn hn2 v1 v2 v3
     go_enter Tryz.func14, Tryz.ntmps14
     go_wp2_with (first
      | (refine wpList_load_row rfl 30 _ rfl _ rfl 30 _ (0,0) _ HS.out.par Tryz.underlying30 rfl (info17'.trans rfl) ?_)
      | (refine wpList_load_row rfl 33 _ rfl _ rfl 33 _ (0,0) _ HS.out.key Tryz.underlying33 rfl (info8'.trans rfl) ?_)
      | (go_at_call 33;(with_reducible refine (KK.out _ HS.out.bel).mono ?_);rintro e w1 ⟨rfl,hb1⟩;have HS1:=Lib.hid (HS.out.next hb1);clear hb1)
      | (go_at_call 34;(with_reducible refine (KF.out _ HS1.out.att).mono ?_);rintro e w2 ⟨rfl,rfl⟩)
      | (refine wpList_load_row rfl 30 _ rfl _ rfl 30 _ (0,0) _ HS1.out.par Tryz.underlying30 rfl (info17'.trans rfl) ?_)
      | (refine wpList_load_row rfl 33 _ rfl _ rfl 33 _ (0,0) _ HS1.out.key Tryz.underlying33 rfl (info8'.trans rfl) ?_)
      | (go_at_call 35;(with_reducible refine (KM.out _ HS1.out.bel).mono ?_);rintro e w3 ⟨rfl,hb3⟩;have HB3:=Lib.hid (HS1.out.bel.trans (hb3.mono HS1.out.bel.size));clear hb3))
     go_ret2;exact ⟨by rw [HE.out];rfl,HB3.out⟩
 · have HE:Hid (msgS K m se ha at_ rs ats=(⟨#[]⟩,K)):=Lib.hid (msgS_key h0)
   have p0:(K != 0)=true:=by simpa using h0
   clear h0 HZ hs hs2 hPv hP sm snm hn hn2
   go_enter Tryz.func14, Tryz.ntmps14
   go_wp2_with (first
    | (refine wpList_load_row rfl 30 _ rfl _ rfl 30 _ (0,0) _ HS.out.par Tryz.underlying30 rfl (info17'.trans rfl) ?_)
    | (refine wpList_load_row rfl 33 _ rfl _ rfl 33 _ (0,0) _ HS.out.key Tryz.underlying33 rfl (info8'.trans rfl) ?_)
    | (go_at_call 33;(with_reducible refine (KK.out _ HS.out.bel).mono ?_);rintro e w1 ⟨rfl,hb1⟩;have HS1:=Lib.hid (HS.out.next hb1);clear hb1))
   go_ret2;exact ⟨by rw [HE.out];rfl,HS1.out.bel⟩
end Go.Proofs.YtiacajjpkncomaaGreatDoor
