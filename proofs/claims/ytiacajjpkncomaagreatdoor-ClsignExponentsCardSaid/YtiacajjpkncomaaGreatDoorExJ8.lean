/- Plain words for keys and signatures: names, the error of a key, products of powers. The bases of a key: the iterator of the program, as a contract. Rows of integers (two cells each): slices of api.Int. -/
import Derived.Test.YtiacajjpkncomaaGreatDoorExUU
import Derived.Test.YtiacajjpkncomaaGreatDoorExOn
import Derived.RangeFuncBox
import Derived.Test.YtiacajjpkncomaaGreatDoorExII
namespace Go.Proofs.YtiacajjpkncomaaGreatDoor
open Go.RowKit
set_option maxRecDepth 100000
set_option linter.unusedVariables false
def pwE (l:List (Nat × Nat)):Nat:=l.foldr (fun p y=>p.1^p.2*y) 1
theorem pwE_nil:pwE []=1:=rfl
theorem pwE_cons (p:Nat × Nat) (l:List (Nat × Nat)):pwE (p::l)=p.1^p.2*pwE l:=rfl
theorem pwE_append (a b:List (Nat × Nat)):pwE (a++b)=pwE a*pwE b:=by
 induction a with
 | nil=>simp [pwE_nil]
 | cons p a ih=>rw [List.cons_append,pwE_cons,pwE_cons,ih,Nat.mul_assoc]
theorem pwE_snoc (l:List (Nat × Nat)) (p:Nat × Nat):pwE (l++[p])=pwE l*p.1^p.2:=by rw [pwE_append,pwE_cons,pwE_nil,Nat.mul_one]
def upE (b:Nat) (l:List (Nat × Nat)):List (Nat × Nat):=l.map fun p=>(p.1,p.2/2^b)
def atE (b:Nat) (l:List (Nat × Nat)):List (Nat × Nat):=l.map fun p=>(p.1,p.2/2^b%2)
theorem pwE_step (b:Nat) (l:List (Nat × Nat)):pwE (upE (b+1) l)*pwE (upE (b+1) l)*pwE (atE b l)=pwE (upE b l):=by
 induction l with
 | nil=>rfl
 | cons p l ih =>
   show p.1^(p.2/2^(b+1))*pwE (upE (b+1) l)*(p.1^(p.2/2^(b+1))*pwE (upE (b+1) l))*(p.1^(p.2/2^b%2)*pwE (atE b l))=p.1^(p.2/2^b)*pwE (upE b l);rw [← ih]
   have e:p.2/2^b=p.2/2^(b+1)+p.2/2^(b+1)+p.2/2^b%2:=by
    have:p.2/2^(b+1)=p.2/2^b/2:=by rw [Nat.pow_succ,Nat.div_div_eq_div_mul]
    rw [this];omega
   generalize p.2/2^(b+1)=u at *
   generalize p.2/2^b%2=v at *
   rw [e,Nat.pow_add,Nat.pow_add]
   ac_rfl
theorem upE_none {b:Nat} {l:List (Nat × Nat)} (h:∀ p∈l,p.2<2^b):pwE (upE b l)=1:=by
 induction l with
 | nil=>rfl
 | cons p l ih =>
   show p.1^(p.2/2^b)*pwE (upE b l)=1;rw [ih (fun q hq=>h q (List.mem_cons_of_mem _ hq)),Nat.div_eq_of_lt (h p List.mem_cons_self)];rfl
theorem upE_zero (l:List (Nat × Nat)):upE 0 l=l:=by
 unfold upE;simp
def midE (b:Nat) (l:List (Nat × Nat)) (k m:Nat):Nat:=pwE (upE (b+1) l)*pwE (upE (b+1) l)*pwE (atE b (l.take k))%m
theorem midE_zero (b:Nat) (l:List (Nat × Nat)) (m:Nat):midE b l 0 m=pwE (upE (b+1) l)%m*(pwE (upE (b+1) l)%m)%m:=by
 unfold midE;rw [List.take_zero];show pwE (upE (b+1) l)*pwE (upE (b+1) l)*1%m=_;rw [Nat.mul_one,← Nat.mul_mod]
theorem midE_full (b:Nat) (l:List (Nat × Nat)) (m:Nat):midE b l l.length m=pwE (upE b l)%m:=by
 unfold midE;rw [List.take_length,pwE_step]
theorem midE_take {b:Nat} {l:List (Nat × Nat)} {k m:Nat} (hk:k<l.length):midE b l (k+1) m=pwE (upE (b+1) l)*pwE (upE (b+1) l)*pwE (atE b (l.take k))*(l.getD k (0,0)).1^((l.getD k (0,0)).2/2^b%2)%m:=by
 unfold midE
 have e:l.take (k+1)=l.take k++[l.getD k (0,0)]:=by
  rw [List.take_succ_eq_append_getElem hk,List.getD_eq_getElem?_getD,List.getElem?_eq_getElem hk];rfl
 rw [e];unfold atE;rw [List.map_append,List.map_cons,List.map_nil,pwE_snoc,← Nat.mul_assoc]
theorem midE_off {b:Nat} {l:List (Nat × Nat)} {k m:Nat} (hk:k<l.length) (h:(l.getD k (0,0)).2/2^b%2≠1):midE b l (k+1) m=midE b l k m:=by
 rw [midE_take hk,show (l.getD k (0,0)).2/2^b%2=0 by omega,Nat.pow_zero,Nat.mul_one];rfl
theorem midE_on {b:Nat} {l:List (Nat × Nat)} {k m:Nat} (hk:k<l.length) (h:(l.getD k (0,0)).2/2^b%2=1):midE b l (k+1) m=midE b l k m*(l.getD k (0,0)).1%m:=by
 rw [midE_take hk,h,Nat.pow_one];unfold midE;rw [Nat.mod_mul_mod]
def byteAt (s:ByteArray) (i:Nat):Nat:=(s.data.toList.getD i 0).toNat
def letterB (c:Nat):Bool:=(decide (97≤c)&&decide (c≤122))||(decide (65≤c)&&decide (c≤90))
def nmB (i c:Nat):Bool:=letterB c||(decide (i≠0)&&(decide (c=95)||(decide (48≤c)&&decide (c≤57))))
def nmT (s:ByteArray):Bool:=(List.range s.size).all fun i=>nmB i (byteAt s i)
def nmS (s:ByteArray):Bool:=nmT s&&(!s.toList.isEmpty&&decide (s.size≤32))
theorem nmT_no {s:ByteArray} {i:Nat} (hi:i<s.size) (h:nmB i (byteAt s i)=false):nmS s=false:=by
 unfold nmS
 have:nmT s=false:=by
  unfold nmT;rw [List.all_eq_false];exact ⟨i,by simpa using hi,by rw [h];decide⟩
 rw [this];rfl
theorem nmT_yes {s:ByteArray} (h:∀ i,i<s.size→nmB i (byteAt s i)=true):nmS s=(!s.toList.isEmpty&&decide (s.size≤32)):=by
 unfold nmS
 have:nmT s=true:=by
  unfold nmT;rw [List.all_eq_true];intro i hi;exact h i (by simpa using hi)
 rw [this];rfl
def keyE (P:Int) (nm m o z s u h:ByteArray) (rs:List ByteArray):Int :=
 if P=0 then (if (m::o::s::z::u::h::rs).all valid=true then (if nmS nm=true then
  (if o.toList.isEmpty=true∧groupE m o=0 then (if 2≤rs.length∧rs.length≤18 then
   (if (!(s.toList==(B 1).toList)&&(s::z::u::h::rs).all (hasG m o))=true then 0 else 13) else 6) else 13) else 1) else 3) else P
def limS (se ha at_:ByteArray) (i:Nat):ByteArray:=if i=0 then se else if i=1 then ha else at_
def attE (se ha at_:ByteArray) (rs ats:List ByteArray):Int :=
 if ats.length=rs.length then (if (List.range ats.length).all (fun i=>decide (num (ats.getD i ByteArray.empty)<num (limS se ha at_ i)))=true then 0 else 2) else 6
def zipE (rs ats:List ByteArray):List (Nat × Nat):=List.zipWith (fun r a=>(num r,num a)) rs ats
def msgV (m:ByteArray) (rs ats:List ByteArray):Nat:=pwE (zipE rs ats)%num m
def msgS (K:Int) (m se ha at_:ByteArray) (rs ats:List ByteArray):ByteArray × Int :=
 if K=0 then (if ats.all valid=true then (if attE se ha at_ rs ats=0 then (B (msgV m rs ats),0) else (⟨#[]⟩,attE se ha at_ rs ats)) else (⟨#[]⟩,3)) else (⟨#[]⟩,K)
end Go.Proofs.YtiacajjpkncomaaGreatDoor
namespace Go.Proofs.YtiacajjpkncomaaGreatDoor
open Go.RowKit Go.Shelf
set_option maxRecDepth 100000
set_option linter.unusedVariables false
set_option maxHeartbeats 4000000
attribute [local go_sem] Oper.semAt_some
def basL (z s u h:ByteArray) (rs:List ByteArray):List (Int × ByteArray):=(2,s)::(0,z)::(1,u)::(1,h)::rs.map fun x=>(0,x)
theorem basL_length (z s u h:ByteArray) (rs:List ByteArray):(basL z s u h rs).length=4+rs.length:=by simp [basL];omega
theorem basL_take {z s u h:ByteArray} {rs:List ByteArray} (k:Nat):(basL z s u h rs).take (4+k)=basL z s u h (rs.take k):=by
 rw [show 4+k=k+4 by omega];simp [basL,List.map_take]
theorem basL_take_succ {z s u h:ByteArray} {rs:List ByteArray} {k:Nat} (hk:k<rs.length) :
  basL z s u h (rs.take (k+1))=basL z s u h (rs.take k)++[(0,rs.getD k ByteArray.empty)]:=by
 have e:rs.take (k+1)=rs.take k++[rs.getD k ByteArray.empty]:=by
  rw [List.take_succ_eq_append_getElem hk,sgetD_lt hk]
 rw [e];simp [basL]
def encB (x:Int × ByteArray):Array Value:=#[.int .i64 x.1,.string x.2]
theorem iss_bases (kn z s u h:Value) (m o:ByteArray) (R:Value) (w:World) :
  Calls Tryz.prog 79 #[.agg #[kn,.string m,.string o,z,s,R,u,h]] w fun e w'=>e=.returned (.func (.func 135) #[] #[.pointer (some ⟨w.heap.size,0,none⟩)])∧w'=w.alloc (.cells #[kn,.string m,.string o,z,s,R,u,h] 33):=by
 go_enter Tryz.func79, Tryz.ntmps79
 go_wp2;go_ret;exact ⟨rfl,rfl⟩
structure KyAt (n₀ Bk:Nat) (z s u h:ByteArray) (A:Option Addr) (n c:Nat) (rs:List ByteArray) (W:World):Prop where
 cz:W.cell? ⟨Bk,3,none⟩=some (.string z)
 cs:W.cell? ⟨Bk,4,none⟩=some (.string s)
 cr:W.cell? ⟨Bk,5,none⟩=some (.slice A n c)
 cu:W.cell? ⟨Bk,6,none⟩=some (.string u)
 ch:W.cell? ⟨Bk,7,none⟩=some (.string h)
 row:SLs W n₀ A rs
 lo:Bk<n₀
theorem KyAt.next {n₀ Bk n c:Nat} {z s u h:ByteArray} {A:Option Addr} {rs:List ByteArray} {W W':World} (k:KyAt n₀ Bk z s u h A n c rs W) (hb:Below n₀ W W'):KyAt n₀ Bk z s u h A n c rs W' :=
 ⟨(hb.cell (p:=⟨Bk,3,none⟩) k.lo).trans k.cz,(hb.cell (p:=⟨Bk,4,none⟩) k.lo).trans k.cs,(hb.cell (p:=⟨Bk,5,none⟩) k.lo).trans k.cr,(hb.cell (p:=⟨Bk,6,none⟩) k.lo).trans k.cu,(hb.cell (p:=⟨Bk,7,none⟩) k.lo).trans k.ch,k.row.below hb,k.lo⟩
theorem bases1_in (N:Nat) (hN:1≤N) (l n₀ Bk:Nat) (z s u h:ByteArray) (A:Option Addr) (n c:Nat) (rs:List ByteArray) (hn:rs.length=n) (hm:n≤1000) (J Jx:List (Int × ByteArray)→World→Prop)
  (hY:∀ pre x W,J pre W→pre.length<4+n→YieldAt Fence.wide (N-1) Tryz.prog l (encB x) W fun e W' =>
   (e=.returned (.bool true)∧J (pre++[x]) W'∧Below n₀ W W')∨(e=.returned (.bool false)∧Jx (pre++[x]) W'))
  (W:World) (hK:KyAt n₀ Bk z s u h A n c rs W) (h0:J [] W) :
  CallsIn Fence.wide N Tryz.prog 135 #[.func (.yield l) #[] #[],.pointer (some ⟨Bk,0,none⟩)] W fun e W'=>(∃ v,e=.returned v) ∧
   ((∃ ys,ys=basL z s u h rs∧J ys W')∨(∃ pre,pre <+: basL z s u h rs∧Jx pre W')):=by
 have HK:=Lib.hid hK;have HN:=Lib.hid hn;have HY:=Lib.hid hY;have H0:=Lib.hid h0;have HM:=Lib.hid hm;obtain ⟨k3,k4,k5,k6,k7,_,_⟩:=hK;clear hn hY h0 hm;refine callsIn_of_wp Tryz.func135 rfl trivial ?_ rfl;simp only [Tryz.ntmps135,List.size_toArray,List.length_cons,List.length_nil,Nat.reduceAdd,Nat.reduceSub,Array.replicate_succ,Array.replicate_zero,List.push_toArray,List.append_toArray,List.nil_append,List.cons_append];obtain ⟨fn,tmps,assign,body,hy,hR⟩:=HY.out [] (2,s) W H0.out (by simp;omega);unfold encB at hy;dsimp only at hy
 gi_wp2
 refine hR.mono ?_;clear hy hR;rintro e W1 (⟨rfl,hJ1,hb1⟩|⟨rfl,hx1⟩)
 · have HK1:=Lib.hid (HK.out.next hb1)
   have HJ1:=Lib.hid hJ1;obtain ⟨k3,k4,k5,k6,k7,_,_⟩:=HK1.out;clear hb1 hJ1;obtain ⟨fn,tmps,assign,body,hy,hR⟩:=HY.out _ (0,z) W1 HJ1.out (by simp;omega);unfold encB at hy;dsimp only at hy
   gi_wp2
   refine hR.mono ?_;clear hy hR;rintro e W2 (⟨rfl,hJ2,hb2⟩|⟨rfl,hx2⟩)
   · have HK2:=Lib.hid (HK1.out.next hb2)
     have HJ2:=Lib.hid hJ2;obtain ⟨k3,k4,k5,k6,k7,_,_⟩:=HK2.out;clear hb2 hJ2;obtain ⟨fn,tmps,assign,body,hy,hR⟩:=HY.out _ (1,u) W2 HJ2.out (by simp;omega);unfold encB at hy;dsimp only at hy
     gi_wp2
     refine hR.mono ?_;clear hy hR;rintro e W3 (⟨rfl,hJ3,hb3⟩|⟨rfl,hx3⟩)
     · have HK3:=Lib.hid (HK2.out.next hb3)
       have HJ3:=Lib.hid hJ3;obtain ⟨k3,k4,k5,k6,k7,_,_⟩:=HK3.out;clear hb3 hJ3;obtain ⟨fn,tmps,assign,body,hy,hR⟩:=HY.out _ (1,h) W3 HJ3.out (by simp;omega);unfold encB at hy;dsimp only at hy
       gi_wp2
       refine hR.mono ?_;clear hy hR;rintro e W4 (⟨rfl,hJ4,hb4⟩|⟨rfl,hx4⟩)
       · have HK4:=Lib.hid (HK3.out.next hb4)
         have HJ4:Hid (J (basL z s u h (rs.take 0)) W4):=Lib.hid (by simpa [basL] using hJ4);obtain ⟨k3,k4,k5,k6,k7,_,_⟩:=HK4.out;clear hb4 hJ4
         gi_wp2
         gi_loopw [34] (fun i wr=>∃ k:Nat,k≤n∧i=.int .i64 k∧J (basL z s u h (rs.take k)) wr∧KyAt n₀ Bk z s u h A n c rs wr) (fun i _=>n-(intOf i).toNat)
         case atStart=>exact ⟨0,Nat.zero_le _,rfl,HJ4.out,HK4.out⟩
         case round =>
          obtain ⟨k,hk,rfl,hJs,hky⟩:=hrel;have HJS:=Lib.hid hJs;have HKY:=Lib.hid hky;clear hJs hky;have hm:n≤1000:=HM.out;by_cases hlt:k<n
          · obtain ⟨ad,rfl,hc⟩:=HKY.out.row.at_ (k:=k) (by rw [HN.out];exact hlt)
            obtain ⟨fn,tmps,assign,body,hy,hR⟩:=HY.out _ (0,rs.getD k ByteArray.empty) wr HJS.out (by rw [basL_length,List.length_take];omega);have hsn:=basL_take_succ (z:=z) (s:=s) (u:=u) (h:=h) (rs:=rs) (k:=k) (by rw [HN.out];exact hlt);obtain ⟨x,hx⟩:∃ x,rs.getD k ByteArray.empty=x:=⟨_,rfl⟩;rw [hx] at hc hy hR hsn;have HSN:=Lib.hid hsn;clear hx hsn;unfold encB at hy;dsimp only at hy
            gi_wp2
            refine hR.mono ?_;clear hy hR;rintro e W5 (⟨rfl,hJ5,hb5⟩|⟨rfl,hx5⟩)
            · have HK5:=Lib.hid (HKY.out.next hb5)
              have HJ5:Hid (J (basL z s u h (rs.take (k+1))) W5):=Lib.hid (by rw [HSN.out];exact hJ5);clear hb5 hJ5
              gi_wp2
              go_roundw
              case rel=>exact ⟨k+1,by omega,by simp,HJ5.out,HK5.out⟩
              case measure=>simp [intOf];omega
            · have HX5:Hid (Jx (basL z s u h (rs.take (k+1))) W5):=Lib.hid (by rw [HSN.out];exact hx5)
              clear hx5
              gi_wp2
              refine bodyPost_ret (results_none rfl _ _ _) rfl ?_;exact ⟨⟨_,rfl⟩,.inr ⟨_,by rw [← basL_take];exact List.take_prefix _ _,HX5.out⟩⟩
          · obtain rfl:k=n:=by omega
            have HF:Hid (J (basL z s u h rs) wr):=Lib.hid (by have:=HJS.out;rwa [List.take_of_length_le (by rw [HN.out];exact Nat.le_refl _)] at this)
            gi_wp2
            go_end0;exact ⟨⟨_,rfl⟩,.inl ⟨_,rfl,HF.out⟩⟩
       · have HX:=Lib.hid hx4
         clear hx4
         gi_wp2
         refine bodyPost_ret (results_none rfl _ _ _) rfl ?_;exact ⟨⟨_,rfl⟩,.inr ⟨_,⟨rs.map fun x=>(0,x),by simp [basL]⟩,HX.out⟩⟩
     · have HX:=Lib.hid hx3
       clear hx3
       gi_wp2
       refine ⟨fun _ h=>(by cases h),?_⟩
       gi_wp2
       refine bodyPost_ret (results_none rfl _ _ _) rfl ?_;exact ⟨⟨_,rfl⟩,.inr ⟨_,⟨(1,h)::rs.map fun x=>(0,x),by simp [basL]⟩,HX.out⟩⟩
   · have HX:=Lib.hid hx2
     clear hx2
     gi_wp2
     refine ⟨fun _ h=>(by cases h),?_⟩
     gi_wp2
     refine bodyPost_ret (results_none rfl _ _ _) rfl ?_;exact ⟨⟨_,rfl⟩,.inr ⟨_,⟨(1,u)::(1,h)::rs.map fun x=>(0,x),by simp [basL]⟩,HX.out⟩⟩
 · have HX:=Lib.hid hx1
   clear hx1
   gi_wp2
   refine ⟨fun _ h=>(by cases h),?_⟩
   gi_wp2
   refine ⟨fun _ h=>(by cases h),?_⟩
   gi_wp2
   refine bodyPost_ret (results_none rfl _ _ _) rfl ?_;exact ⟨⟨_,rfl⟩,.inr ⟨_,⟨(0,z)::(1,u)::(1,h)::rs.map fun x=>(0,x),by simp [basL]⟩,HX.out⟩⟩
theorem bases_stops (N:Nat) (hN:1≤N) (n₀ Bk:Nat) (z s u h:ByteArray) (A:Option Addr) (n c:Nat) (rs:List ByteArray) (hn:rs.length=n) (hm:n≤1000) (w:World) (hK:KyAt n₀ Bk z s u h A n c rs w) (h0:n₀≤w.heap.size) :
  SeqStopsK Fence.wide N Tryz.prog 135 #[.pointer (some ⟨Bk,0,none⟩)] encB (Below n₀) (fun ys=>ys=basL z s u h rs) (fun pre=>pre <+: basL z s u h rs) (4+n) w:=fun l J Jx W hW _ _ hY hJ =>
 bases1_in N hN l n₀ Bk z s u h A n c rs hn hm J Jx hY W (hK.next (hW.mono h0)) hJ
end Go.Proofs.YtiacajjpkncomaaGreatDoor
namespace Go.Proofs.YtiacajjpkncomaaGreatDoor
open Go.RowKit
set_option maxRecDepth 100000
set_option linter.unusedVariables false
set_option maxHeartbeats 4000000
def flatZ (es:List (Bool × ByteArray)):List Value:=es.flatMap fun e=>[.bool e.1,.string e.2]
theorem flatZ_cons (e:Bool × ByteArray) (es:List (Bool × ByteArray)):flatZ (e::es)=.bool e.1::.string e.2::flatZ es:=rfl
theorem flatZ_append (a b:List (Bool × ByteArray)):flatZ (a++b)=flatZ a++flatZ b:=by simp [flatZ]
def z0:Bool × ByteArray:=(false,⟨#[]⟩)
theorem flatZ_get (es:List (Bool × ByteArray)) (k:Nat) (hk:k<es.length):(flatZ es)[k*2]?=some (.bool (es.getD k z0).1)∧(flatZ es)[k*2+1]?=some (.string (es.getD k z0).2):=by
 induction es generalizing k with
 | nil=>cases hk
 | cons e es ih =>
   cases k with
   | zero=>exact ⟨rfl,rfl⟩
   | succ k =>
     have:=ih k (by simpa using hk);rw [flatZ_cons,show (k+1)*2=k*2+1+1 by omega];simpa using this
theorem flatZ_one (es:List (Bool × ByteArray)):∀ v∈flatZ es,v.oneCell'=true:=by
 intro v hv;unfold flatZ at hv;rw [List.mem_flatMap] at hv;obtain ⟨e,_,h⟩:=hv;simp only [List.mem_cons,List.not_mem_nil,or_false] at h
 rcases h with rfl|rfl<;>rfl
def ZLs (w:World) (b:Nat) (A:Option Addr) (es:List (Bool × ByteArray)):Prop :=
 es≠[]→∃ g,A=some ⟨g,0,none⟩∧g<b∧∀ j,j<es.length→w.cell? ⟨g,j*2,none⟩=some (.bool (es.getD j z0).1)∧w.cell? ⟨g,j*2+1,none⟩=some (.string (es.getD j z0).2)
section
variable {w w':World} {b b':Nat} {A:Option Addr} {es:List (Bool × ByteArray)}
theorem ZLs.below (h:ZLs w b A es) (hb:Below b w w'):ZLs w' b A es:=fun hne=>by
 obtain ⟨g,e,hg,hc⟩:=h hne;exact ⟨g,e,hg,fun j hj=>⟨(hb.cell (p:=⟨g,j*2,none⟩) hg).trans (hc j hj).1,(hb.cell (p:=⟨g,j*2+1,none⟩) hg).trans (hc j hj).2⟩⟩
theorem ZLs.more (h:ZLs w b A es) (hb:b≤b'):ZLs w b' A es:=fun hne=>by
 obtain ⟨g,e,h1,hc⟩:=h hne;exact ⟨g,e,Nat.lt_of_lt_of_le h1 hb,hc⟩
theorem ZLs.to (h:ZLs w w.heap.size A es) (hb:Below w.heap.size w w'):ZLs w' w'.heap.size A es:=(h.below hb).more hb.size
theorem ZLs.at_ (h:ZLs w b A es) {k:Nat} (hk:k<es.length):∃ g,A=some ⟨g,0,none⟩∧g<b∧w.cell? ⟨g,k*2,none⟩=some (.bool (es.getD k z0).1)∧w.cell? ⟨g,k*2+1,none⟩=some (.string (es.getD k z0).2):=by
 obtain ⟨g,e,hg,hc⟩:=h (by intro e;rw [e] at hk;simp at hk);exact ⟨g,e,hg,(hc k hk).1,(hc k hk).2⟩
theorem ZLs.nil_:ZLs w b none []:=fun h=>absurd rfl h
theorem ZLs.drew (h:ZLs w b A es):ZLs w.drew b A es:=h
theorem ZLs.lit (w:World) (T:TypeId) (es:List (Bool × ByteArray)) (b:Nat) (hb:w.heap.size<b):ZLs (w.alloc (.cells (flatZ es).toArray T)) b (some ⟨w.heap.size,0,none⟩) es:=fun _=>by
 refine ⟨w.heap.size,rfl,hb,fun j hj=>?_⟩;have h:=heap_alloc_new w (.cells (flatZ es).toArray T);have hg:=flatZ_get es j hj;simp only [World.cell?,h];simpa using hg
def OwnZ (w:World) (base:Nat) (v:Value) (n:Nat) (es:List (Bool × ByteArray)):Prop:=es.length=n∧w.ownsRow base 88 2 v n (flatZ es)
theorem OwnZ.nil_ (w:World) (base:Nat):OwnZ w base (.slice none 0 0) 0 []:=⟨rfl,World.ownsRow_nil w base _ 2⟩
theorem OwnZ.form {base n:Nat} {v:Value} (h:OwnZ w base v n es):∃ A c,v=.slice A n c∧ZLs w w.heap.size A es:=by
 obtain ⟨hn,hr⟩:=h
 rcases hr.2 with ⟨rfl,h0⟩|⟨g,cap,cur,rfl,hb,hg,_⟩
 · have:es=[]:=List.eq_nil_of_length_eq_zero (by omega)
   subst this;exact ⟨none,0,by rw [h0],ZLs.nil_⟩
 · refine ⟨some ⟨g,0,none⟩,cap,rfl,fun _=>⟨g,rfl,(Array.getElem?_eq_some_iff.1 hg).1,fun j hj=>?_⟩⟩
   have hf:=flatZ_get es j hj;have c1:=hr.cells (g:=g) rfl _ _ hf.1;have c2:=hr.cells (g:=g) rfl _ _ hf.2;rw [addr_add,Nat.zero_add] at c1 c2;exact ⟨c1,c2⟩
theorem OwnZ.kept {base n:Nat} {v:Value} (h:OwnZ w base v n es) (hb:Below w.heap.size w w'):OwnZ w' base v n es:=by
 refine ⟨h.1,h.2.1,?_⟩
 rcases h.2.2 with hn|⟨g,cap,cur,rfl,h1,hg,rest⟩
 · exact .inl hn
 · exact .inr ⟨g,cap,cur,rfl,h1,(hb.block g (Array.getElem?_eq_some_iff.1 hg).1).trans hg,rest⟩
theorem OwnZ.blockOf {base n:Nat} {v:Value} (h:OwnZ w base v n es):∀ k,v.ownBlock=some k→base≤k∧k<w.heap.size:=by
 intro k hk
 rcases h.2.2 with ⟨rfl,_⟩|⟨g,cap,cur,rfl,h1,hg,rest⟩
 · cases hk
 · cases hk
   exact ⟨h1,(Array.getElem?_eq_some_iff.1 hg).1⟩
end
theorem api_intE:∃ i:TypeInfo,Tryz.prog.info? 88=some i∧i.zero=some (.agg #[.bool false,.string ByteArray.empty])∧i.size=2∧i.bytes=24:=by
 have h:(Tryz.prog.info? 88).map (fun i=>(i.zero,i.size,i.bytes))=some (some (.agg #[.bool false,.string ByteArray.empty]),2,24):=by kernel_rfl
 obtain ⟨i,h1,h2,h3,h4⟩:=info_parts h;exact ⟨i,h1,h2,h3,h4⟩
theorem wpList_append_Z {w:World} {ops:Array Oper} {rest:List Oper} {o:Oper} {a:Act} {Q:Exit→Act→World→Prop} (hgd:o.guard=none) (s x:Operand)
  (ho:o.op=.call { callee:=.builtin .append,args:=#[s,x],argTypes:=#[90,90] })
  (base:Nat) (v:Value) (n:Nat) (es:List (Bool × ByteArray)) (hs:a.eval s=v) (hown:OwnZ w base v n es)
  (g c:Nat) (e:Bool × ByteArray) (hx:a.eval x=.slice (some ⟨g,0,none⟩) 1 c) (h0:w.cell? ⟨g,0,none⟩=some (.bool e.1)) (h1:w.cell? ⟨g,1,none⟩=some (.string e.2)) (hg:g<w.heap.size) (hsz:n≤100000) (hbase:base≤w.heap.size)
  (h:∀ v' w',OwnZ w' base v' (n+1) (es++[e])→Below base w w'→wpList Tryz.prog ops Q rest (a.put o.dst v') w'):wpList Tryz.prog ops Q (o::rest) a w:=by
 obtain ⟨i,hi,hz,hs1,hb1⟩:=api_intE
 have hr:Reads w w.heap.size 2 (some ⟨g,0,none⟩) 1 (flatZ [e]):=⟨rfl,fun _=>⟨_,rfl,hg,fun j u hu=>by
  match j,hu with
  | 0,hu=>cases hu;exact h0
  | 1,hu=>cases hu;exact h1⟩⟩
 refine wpList_append_any w hgd s x 90 ho base 88 i (.agg #[.bool false,.string ByteArray.empty]) 2 24 Tryz.underlying90 hi hz hs1 hb1 rfl (by decide) v n (flatZ es) hs hown.2 w.heap.size (some ⟨g,0,none⟩) 1 c (flatZ [e]) hx hr (flatZ_one [e]) (by unfold maxLen;omega) (by omega) hbase ?_;intro v' w' h2 h3 _;refine h v' w' ⟨by rw [List.length_append,hown.1];rfl,by rw [flatZ_append];exact h2⟩ (below_grown h3 hbase fun k hk=>(hown.blockOf k hk).1)
end Go.Proofs.YtiacajjpkncomaaGreatDoor
