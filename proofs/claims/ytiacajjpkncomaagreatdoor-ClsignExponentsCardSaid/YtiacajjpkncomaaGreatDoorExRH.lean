/- The walks of the reference's package 05 (SHA-256): right, constants, padded. The walks of the reference's package 05 (SHA-256): compress. The walks of the reference's package 05 (SHA-256): Sum, xored, Mac. -/
import Derived.Test.YtiacajjpkncomaaGreatDoorExJ1
import Derived.Deep.DeepCutAuto
import Derived.Deep.CutBlock
namespace Go.Proofs.YtiacajjpkncomaaGreatDoor
open Go.RowKit
set_option maxRecDepth 100000
set_option linter.unusedVariables false
set_option maxHeartbeats 2000000
theorem rot_bits (x n:Nat) (hx:x<4294967296):bits .or .u32 ((x:Int)/2^n) ((x:Int)*2^(32-n)%4294967296)=((rotr x n:Nat):Int):=by
 have e1:(x:Int)/2^n=((x/2^n:Nat):Int):=by rw [Int.natCast_ediv];simp
 have e2:(x:Int)*2^(32-n)%4294967296=((x*2^(32-n)%4294967296:Nat):Int):=by rw [Int.natCast_emod,Int.natCast_mul];simp
 rw [e1,e2,u32_or_nat _ _ (Nat.lt_of_le_of_lt (Nat.div_le_self _ _) hx) (Nat.mod_lt _ (by decide))];rfl
theorem r05_right (x n:Nat) (w:World) (hx:x<4294967296) (h1:1≤n) (h2:n<32) :
  Calls Tryz.prog 204 #[.int .u32 x,.int .i64 n] w fun e w'=>e=.returned (.int .u32 (rotr x n:Nat))∧Below w.heap.size w w':=by
 have p1:(0:Int)≤(n:Int):=by omega
 have p2:(0:Int)≤32-(n:Int):=by omega
 have p3:wrap64 (32-(n:Int))=32-(n:Int):=IntWalk.wrap64_in _ (by omega);have HV:=Lib.hid (rot_bits x n hx);clear hx h1 h2
 go_enter Tryz.func204, Tryz.ntmps204
 go_wp2_with fail;go_quiet (fail);go_wp2_with fail;go_ret;exact ⟨ret_int HV.out,below_drewN (Below.refl _ _) _⟩
theorem r05_rightL (x n:Nat) (z:Int) (w:World) (hz:z=n) (hx:x<4294967296) (h1:1≤n) (h2:n<32) :
  Calls Tryz.prog 204 #[.int .u32 x,.int .i64 z] w fun e w'=>e=.returned (.int .u32 (rotr x n:Nat))∧Below w.heap.size w w':=by
 subst hz;exact r05_right x n w hx h1 h2
theorem r05_constants (w:World) :
  Calls Tryz.prog 203 #[] w fun e w'=>(∃ g,e=.returned (.slice (some ⟨g,0,none⟩) 64 64)∧C32 w' g 198 consts∧w.heap.size≤g)∧Below w.heap.size w w':=by
 go_enter Tryz.func203, Tryz.ntmps203
 go_wp2_with fail;go_ret;exact ⟨⟨w.heap.size,rfl,heap_alloc_new w _,Nat.le_refl _⟩,(Below.refl _ _).alloc (Nat.le_refl _) _⟩
def fillB (n k:Nat):List UInt8:=List.replicate k 0++(lenBytes n 8).drop k
theorem fillB_zero (n:Nat):fillB n 0=lenBytes n 8:=rfl
theorem fillB_eight (n:Nat):fillB n 8=List.replicate 8 0:=by
 unfold fillB;rw [List.drop_of_length_le (by rw [lenBytes_len];exact Nat.le_refl _),List.append_nil]
theorem fillB_len (n k:Nat) (h:k≤8):(fillB n k).length=8:=by
 unfold fillB;rw [List.length_append,List.length_replicate,List.length_drop,lenBytes_len];omega
theorem fillB_step (n m:Nat) (h:m<8):(fillB n (m+1)).set m (UInt8.ofNat (n*8/256^(8-(m+1))))=fillB n m:=by
 unfold fillB
 have hd:(lenBytes n 8).drop m=UInt8.ofNat (n*8/256^(8-(m+1)))::(lenBytes n 8).drop (m+1):=by
  rw [List.drop_eq_getElem_cons (by rw [lenBytes_len];exact h)];congr 1;unfold lenBytes;rw [List.getElem_map,List.getElem_range,show 7-m=8-(m+1) by omega]
 rw [hd,List.replicate_succ',List.append_assoc,List.set_append_right _ _ (by simp),List.length_replicate,Nat.sub_self];rfl
theorem data_app (a b:ByteArray):(a++b).data.toList=a.data.toList++b.data.toList:=by simp
theorem size_list (s:ByteArray):s.data.toList.length=s.size:=by rw [← Lib.size_eq]
theorem of_list {s:ByteArray} {L:List UInt8} (h:s.data.toList=L):s=⟨L.toArray⟩:=by
 subst h
 cases s
 simp
def strLen:Value→Nat|.string t=>t.size|_=>0
theorem r05_padded (s:ByteArray) (w:World) (hs:s.size≤200000) :
  Calls Tryz.prog 195 #[.string s] w fun e w'=>e=.returned (.string ⟨(padded s.data.toList).toArray⟩)∧Below w.heap.size w w':=by
 have hmk:∀ w:World,(Instr.makeSlice 94 (.int .i64 8) (.int .i64 8)).run Tryz.prog w=.ok (.slice (some ⟨w.heap.size,0,none⟩) 8 8) (w.alloc (.cells (cellsOf (List.replicate 8 0)) 5)):=fun w=>make_bytes 8 (by decide) w
 have hn1:(s.size:Int)*8%18446744073709551616=((s.size*8:Nat):Int):=by omega
 have HS:=Lib.hid hs;have HZ:=Lib.hid (show zerosOf s.size<64∧(s.size+1+zerosOf s.size)%64=56∧∀ j,j<zerosOf s.size→(s.size+1+j)%64≠56 by unfold zerosOf;refine ⟨?_,?_,?_⟩<;>intros<;>omega);obtain ⟨Z,hZ⟩:∃ Z,Z=zerosOf s.size:=⟨_,rfl⟩;rw [← hZ] at HZ;have HZE:=Lib.hid hZ;clear hZ;have hsz:(s++⟨#[128]⟩:ByteArray).size=s.size+1:=by rw [ByteArray.size_append];rfl
 go_enter Tryz.func195, Tryz.ntmps195
 go_wp2_with fail;have HT0:=Lib.hid (show (s++⟨#[128]⟩:ByteArray).data.toList=padTo s.data.toList 0 by rw [data_app];unfold padTo;rw [List.replicate_zero,List.append_nil]);clear hsz hs;go_loop [0] (fun v=>∃ (j:Nat) (t:ByteArray),v=.string t∧t.data.toList=padTo s.data.toList j∧j≤Z) (fun v=>s.size+1+Z-strLen v)
 case atStart=>exact ⟨0,_,rfl,HT0.out,Nat.zero_le _⟩
 case round =>
  clear HT0;obtain ⟨j,t,rfl,ht,hj⟩:=hrel;have htz:t.size=s.size+1+j:=by rw [← size_list,ht,padTo_len,size_list]
  obtain ⟨m,hm⟩:∃ m,m=t.size:=⟨_,rfl⟩;rw [← hm] at htz;have htl:t.size≤300000:=by have:=HZ.out.1;have:=HS.out;omega
  have HM:=Lib.hid hm;have HTZ:=Lib.hid htz;have HT:=Lib.hid ht;by_cases hlt:j<Z
  · have hq:m%64≠56:=by rw [htz];exact HZ.out.2.2 j hlt
    have q1:((t.size:Int)%64==56)=false:=by rw [beq_eq_false_iff_ne,← hm];omega
    have q2:(Int.tmod (t.size:Int) 64==56)=false:=by rw [Int.tmod_eq_emod_of_nonneg (by omega)];exact q1
    have HJ:=Lib.hid hlt;clear ht htz hm hlt hj hq;go_wp2_with fail;go_round
    case rel=>exact ⟨j+1,t++⟨#[0]⟩,rfl,by rw [data_app,HT.out,← padTo_step],HJ.out⟩
    case measure =>
     have h1:=HM.out;have h2:=HTZ.out;have h3:=HJ.out;have h4:(t++⟨#[0]⟩:ByteArray).size=t.size+1:=by rw [ByteArray.size_append];rfl
     show s.size+1+Z-(t++⟨#[0]⟩:ByteArray).size<s.size+1+Z-t.size;rw [h4];omega
  · have ej:j=Z:=by omega
    subst ej;have hq:m%64=56:=by rw [htz];exact HZ.out.2.1
    have q1:((t.size:Int)%64==56)=true:=by rw [beq_iff_eq,← hm];omega
    have q2:(Int.tmod (t.size:Int) 64==56)=true:=by rw [Int.tmod_eq_emod_of_nonneg (by omega)];exact q1
    have hmk:=hmk;clear ht htz hm hlt hj hq;go_wp2_with fail
    have hb0:Bk (w.alloc (.cells (cellsOf [0,0,0,0,0,0,0,0]) 5)) w.heap.size 5 (fillB s.size 8):=by
     rw [fillB_eight];exact Bk.new _ _ _
    have HB0:=Lib.hid hb0;have HE0:=Lib.hid (show Below w.heap.size w (w.alloc (.cells (cellsOf [0,0,0,0,0,0,0,0]) 5)) from (Below.refl _ _).alloc (Nat.le_refl _) _);clear hb0 hmk q1 q2;go_loopw [5,6] (fun v5 v6 wr=>∃ (k N:Nat) (z:Int),v5=.int .u64 (N:Nat)∧v6=.int .i64 z∧z=(k:Int)-1∧N=s.size*8/256^(8-k)∧k≤8∧Bk wr w.heap.size 5 (fillB s.size k)∧Below w.heap.size w wr) (fun _ v _=>(intOf v+1).toNat)
    case atStart=>exact ⟨8,s.size*8,7,by rw [Int.natCast_mul];rfl,rfl,rfl,by simp,by decide,HB0.out,HE0.out⟩
    case round =>
     clear HB0 HE0;obtain ⟨k,N,z,rfl,rfl,hz,hN,hk,hbk,hbe⟩:=hrel;have HBK:=Lib.hid hbk;have HBE:=Lib.hid hbe;clear hbe
     rcases k with _|m
     · obtain rfl:z=-1:=by omega
       have hrow:=hbk.row;rw [fillB_zero] at hrow;have hcv:=conv_str hrow 8 8 (lenBytes_len _ _);have hls:(⟨(lenBytes s.size 8).toArray⟩:ByteArray).size=8:=by show (lenBytes s.size 8).toArray.size=8;rw [List.size_toArray,lenBytes_len]
       have HR:Hid (t++⟨(lenBytes s.size 8).toArray⟩=(⟨(padded s.data.toList).toArray⟩:ByteArray)):=Lib.hid (of_list (by
        rw [data_app,HT.out,padded_eq,size_list,HZE.out]))
       clear hbk hrow hz hN hk;go_wp2_with fail;go_ret;exact ⟨ret_string HR.out,HBE.out⟩
     · obtain rfl:z=(m:Int):=by omega
       have cw:=hbk.cell (k:=m) (by rw [fillB_len _ _ hk];omega);have fw:=hbk.free m;obtain ⟨b,hb⟩:∃ b,b=UInt8.ofNat N:=⟨_,rfl⟩;have e1:(N:Int)%256%256=(b.toNat:Int):=by rw [hb,UInt8.toNat_ofNat'];omega
       have e2:(N:Int)%256=(b.toNat:Int):=by rw [hb,UInt8.toNat_ofNat'];omega
       have HST:Hid ((fillB s.size (m+1)).set m b=fillB s.size m):=Lib.hid (by rw [hb,hN];exact fillB_step s.size m (by omega))
       have HN2:Hid (N/256=s.size*8/256^(8-m)):=Lib.hid (by
        rw [hN,Nat.div_div_eq_div_mul,← Nat.pow_succ,show (8-(m+1)).succ=8-m by omega])
       have HW:Hid (Value.int .u64 (IntKind.u64.wrap ((N:Int)/256))=.int .u64 ((N/256:Nat):Int)):=Lib.hid (by
        have h1:N≤s.size*8:=by rw [hN];exact Nat.div_le_self _ _
        have h2:=HS.out;have h3:IntKind.u64.wrap ((N:Int)/256)=((N/256:Nat):Int):=by rw [IntKind.wrap_u64];omega
        rw [h3])
       have HK:=Lib.hid hk;have m0:(0:Int)≤(m:Int):=by omega
       have m8:(m:Int)<8:=by omega
       clear hbk hb hN hk hz;go_wp2_with fail;refine ⟨⟨m,N/256,(m:Int)-1,HW.out,rfl,rfl,HN2.out,by have:=HK.out;omega,?_,?_⟩,?_⟩
       · rw [← HST.out]
         exact HBK.out.set m b
       · exact HBE.out.setCell (p:=⟨w.heap.size,m,none⟩) (Nat.le_refl _) _
       · show ((m:Int)-1+1).toNat<((m:Int)+1).toNat
         omega
theorem byte_get (s:ByteArray) (n:Nat) (h:n<s.size):s.data.toList.getD n 0=s[n]'h:=by
 rw [getD_lt (by rw [size_list];exact h)];simp [ByteArray.getElem_eq_getElem_data]
theorem u32_info:(Tryz.prog.info? 198).map (fun i=>(i.zero,i.size,i.bytes))=some (some (.int .u32 0),1,4):=by kernel_rfl
theorem madeCells_u32 (n:Nat):madeCells #[Value.int .u32 0] n=u32Cells (List.replicate n 0):=by
 apply Array.ext
 · simp [madeCells,u32Cells]
 · intro i h1 h2
   simp [madeCells,Nat.mod_one,u32Cells]
theorem make_u32 (w:World):(Instr.makeSlice 183 (.int .i64 64) (.int .i64 64)).run Tryz.prog w =
  .ok (.slice (some ⟨w.heap.size,0,none⟩) 64 64) (w.alloc (.cells (u32Cells (List.replicate 64 0)) 198)):=by
 rw [← madeCells_u32];exact run_make_row' 183 198 (.int .u32 0) 4 Tryz.underlying183 u32_info rfl .i64 .i64 64 (by omega) (by omega) w
def partW (b:List UInt8) (i:Nat):Nat→Nat
 | 0=>0
 | k+1=>partW b i k*256+(b.getD (4*i+k) 0).toNat
theorem partW_four (b:List UInt8) (i:Nat):partW b i 4=wordAt b i:=by
 unfold wordAt;simp only [partW,Nat.add_zero];omega
theorem partW_lt (b:List UInt8) (i:Nat):∀ k,partW b i k<256^k:=by
 intro k
 induction k with
 | zero=>exact Nat.one_pos
 | succ k ih =>
   have:=byte_lt (b.getD (4*i+k) 0);simp only [partW,Nat.pow_succ];omega
def firstP (b:List UInt8) (i k:Nat):List Nat:=(List.range i).map (wordAt b)++partW b i k::List.replicate (63-i) 0
theorem firstP_zero (b:List UInt8) (i:Nat) (h:i<64):firstP b i 0=firstW b i:=by
 unfold firstP firstW;rw [show 64-i=63-i+1 by omega,List.replicate_succ];rfl
theorem firstP_four (b:List UInt8) (i:Nat) (h:i<64):firstP b i 4=firstW b (i+1):=by
 unfold firstP firstW;rw [partW_four,show 64-(i+1)=63-i by omega,List.range_succ,List.map_append,List.append_assoc];rfl
theorem firstP_len (b:List UInt8) (i k:Nat) (h:i<64):(firstP b i k).length=64:=by
 unfold firstP;simp;omega
theorem firstP_at (b:List UInt8) (i k:Nat):(firstP b i k).getD i 0=partW b i k:=by
 unfold firstP;rw [List.getD_eq_getElem?_getD,List.getElem?_append_right (by simp)];simp
theorem firstP_set (b:List UInt8) (i k v:Nat) (hv:v=partW b i (k+1)):(firstP b i k).set i v=firstP b i (k+1):=by
 unfold firstP;rw [List.set_append_right _ _ (by simp),hv];simp
theorem r05_schedule (s:ByteArray) (w:World) (hs:s.size=64) :
  Calls Tryz.prog 202 #[.string s] w fun e w'=>(∃ g,e=.returned (.slice (some ⟨g,0,none⟩) 64 64)∧C32 w' g 198 (sched s.data.toList)∧w.heap.size≤g)∧Below w.heap.size w w':=by
 have hmk:=make_u32;obtain ⟨CZ,hCZ⟩:∃ x,x=u32Cells (List.replicate 64 0):=⟨_,rfl⟩;rw [← hCZ] at hmk;have HCZ:=Lib.hid hCZ;clear hCZ;have HL:=Lib.hid (show s.data.toList.length=64 by rw [size_list,hs])
 go_enter Tryz.func202, Tryz.ntmps202
 go_wp2_with fail;have HC0:Hid (C32 (w.alloc (.cells CZ 198)) w.heap.size 198 (firstW s.data.toList 0)):=Lib.hid (by rw [HCZ.out];exact C32.new w 198 (firstW s.data.toList 0));have HB0:=Lib.hid (show Below w.heap.size w (w.alloc (.cells CZ 198)) from (Below.refl _ _).alloc (Nat.le_refl _) _);clear hmk;go_loopw [4] (fun v wr=>∃ i:Nat,v=.int .i64 i∧i≤16∧C32 wr w.heap.size 198 (firstW s.data.toList i)∧Below w.heap.size w wr) (fun v _=>16-(intOf v).toNat)
 case atStart=>exact ⟨0,rfl,by decide,HC0.out,HB0.out⟩
 case round =>
  clear HC0 HB0;obtain ⟨i,rfl,hi,hc,hb⟩:=hrel;have HC:=Lib.hid hc;have HB:=Lib.hid hb;clear hc hb;by_cases hlt:i<16
  · have i1:decide ((i:Int)<16)=true:=decide_eq_true (by omega)
    have HLT:=Lib.hid hlt;clear i1;go_wp2_with fail;have hz:C32 wr w.heap.size 198 (firstP s.data.toList i 0):=by rw [firstP_zero _ _ (by omega)];exact HC.out
    have HZ:=Lib.hid hz;clear hz;go_loopw [5] (fun v wq=>∃ k:Nat,v=.int .i64 k∧k≤4∧C32 wq w.heap.size 198 (firstP s.data.toList i k)∧Below w.heap.size w wq) (fun v _=>4-(intOf v).toNat)
    case atStart=>exact ⟨0,rfl,by decide,HZ.out,HB.out⟩
    case round =>
     clear HZ HC HB;obtain ⟨k,rfl,hk,hc,hb⟩:=hrel;have HC:=Lib.hid hc;have HB:=Lib.hid hb;by_cases hlk:k<4
     · have k1:decide ((k:Int)<4)=true:=decide_eq_true (by omega)
       have cw:=hc.cell (k:=i) (by rw [firstP_len _ _ _ (by omega)];omega);have fw:=hc.free i;rw [firstP_at] at cw;obtain ⟨P,hP⟩:∃ P,P=partW s.data.toList i k:=⟨_,rfl⟩;rw [← hP] at cw;have HLK:=Lib.hid hlk;have n1:(0:Int)≤4*(i:Int)+(k:Int):=by omega
       have n2:4*(i:Int)+(k:Int)<64:=by omega
       have n3:(i:Int)<64:=by omega
       have w1:IntKind.i64.wrap (4*(i:Int))=4*(i:Int):=IntWalk.i64_in _ (by omega);have w2:IntKind.i64.wrap (4*(i:Int)+(k:Int))=4*(i:Int)+(k:Int):=IntWalk.i64_in _ (by omega);have n4:(0:Int)≤(i:Int):=by omega
       have HE:Hid (∀ h:4*i+k<s.size,((P:Int)*256+((s[4*i+k]'h).toNat:Int))%4294967296=((partW s.data.toList i (k+1):Nat):Int)):=Lib.hid (fun h=>by
        have h1:=partW_lt s.data.toList i k;rw [← hP] at h1;have h2:=byte_lt (s[4*i+k]'h);have h3:(256:Nat)^k≤256^3:=Nat.pow_le_pow_right (by decide) (by omega)
        have h4:partW s.data.toList i (k+1)=P*256+(s[4*i+k]'h).toNat:=by
         simp only [partW,← hP,byte_get s _ h]
        rw [h4]
        omega)
       have HQ:Hid (4*i+k<s.size):=Lib.hid (by omega);clear hc hb hP;go_wp2_with fail;go_region
       all_goals
        go_wp2_with fail;go_roundw
        case rel =>
         refine ⟨k+1,by go_num,HLK.out,?_,(HB.out.setCell (p:=⟨w.heap.size,i,none⟩) (Nat.le_refl _) _).drew⟩;rw [HE.out HQ.out];have:=HC.out.set i (partW s.data.toList i (k+1));rw [firstP_set _ _ _ _ rfl] at this;exact this
        case measure=>have:=HLK.out;show 4-((k:Int)+1).toNat<4-(k:Int).toNat;omega
     · obtain rfl:k=4:=by omega
       have k1:decide (((4:Nat):Int)<4)=false:=rfl;have hc2:=HC.out;rw [firstP_four _ _ (by omega)] at hc2;have HC2:=Lib.hid hc2;clear hc hb hc2 HC;go_wp2_with fail;go_roundw
       case rel=>exact ⟨i+1,by go_num,HLT.out,HC2.out,HB.out⟩
       case measure=>have:=HLT.out;show 16-((i:Int)+1).toNat<16-(i:Int).toNat;omega
  · obtain rfl:i=16:=by omega
    clear hlt hi;go_wp2_with fail;rw [show ((16:Nat):Int)=16 from rfl];have HC0:Hid (C32 wr w.heap.size 198 (laterW s.data.toList 0)):=Lib.hid (by rw [← laterW_zero];exact HC.out);clear HC;go_loopw [6] (fun v wq=>∃ j:Nat,v=.int .i64 j∧16≤j∧j≤64∧C32 wq w.heap.size 198 (laterW s.data.toList (j-16))∧Below w.heap.size w wq) (fun v _=>64-(intOf v).toNat)
    case atStart=>exact ⟨16,rfl,by decide,by decide,HC0.out,HB.out⟩
    case round =>
     clear HC0 HB;obtain ⟨j,rfl,hj1,hj2,hci,hbei⟩:=hrel;have HCI:=Lib.hid hci;have HBI:=Lib.hid hbei;clear hci hbei;by_cases hlt:j<64
     · obtain ⟨L,hLL⟩:∃ L,L=s.data.toList:=⟨_,rfl⟩
       rw [← hLL] at HCI;have HLL:=Lib.hid hLL;clear hLL;obtain ⟨i,hji⟩:∃ i,j=i+16:=⟨j-16,by omega⟩;obtain ⟨i1,h1⟩:∃ x,i+1=x:=⟨_,rfl⟩;obtain ⟨i9,h9⟩:∃ x,i+9=x:=⟨_,rfl⟩;obtain ⟨iE,hE⟩:∃ x,i+14=x:=⟨_,rfl⟩;rw [show j-16=i from by omega] at HCI;have c1:=HCI.out.cell (k:=i1) (by rw [laterW_len L (by omega)];omega);have cE:=HCI.out.cell (k:=iE) (by rw [laterW_len L (by omega)];omega);have X0:=Lib.hid (laterW_lt L i i);have X1:=Lib.hid (laterW_lt L i i1);have X9:=Lib.hid (laterW_lt L i i9);have XE:=Lib.hid (laterW_lt L i iE);obtain ⟨z,hz⟩:∃ x,(laterW L i).getD i 0=x:=⟨_,rfl⟩;obtain ⟨x,hx⟩:∃ x,(laterW L i).getD i1 0=x:=⟨_,rfl⟩;obtain ⟨u,hu⟩:∃ x,(laterW L i).getD i9 0=x:=⟨_,rfl⟩;obtain ⟨y,hy⟩:∃ x,(laterW L i).getD iE 0=x:=⟨_,rfl⟩;rw [hz] at X0;rw [hx] at c1 X1;rw [hu] at X9;rw [hy] at cE XE;have F0:IntKind.i64.wrap ((j:Int)-16)=(i:Int):=by rw [IntKind.wrap_i64];omega
       have F1:IntKind.i64.wrap ((j:Int)-15)=(i1:Int):=by rw [IntKind.wrap_i64];omega
       have F9:IntKind.i64.wrap ((j:Int)-7)=(i9:Int):=by rw [IntKind.wrap_i64];omega
       have FE:IntKind.i64.wrap ((j:Int)-2)=(iE:Int):=by rw [IntKind.wrap_i64];omega
       have FJ:IntKind.i64.wrap ((j:Int)+1)=(j:Int)+1:=by rw [IntKind.wrap_i64];omega
       have p0:(0:Int)≤(i:Int):=by omega
       have r0:(i:Int)<64:=by omega
       have p1:(0:Int)≤(i1:Int):=by omega
       have r1:(i1:Int)<64:=by omega
       have p9:(0:Int)≤(i9:Int):=by omega
       have r9:(i9:Int)<64:=by omega
       have pE:(0:Int)≤(iE:Int):=by omega
       have rE:(iE:Int)<64:=by omega
       have pJ:(0:Int)≤(j:Int):=by omega
       have rJ:(j:Int)<64:=by omega
       have HLEN:=Lib.hid (laterW_len L (i:=i) (by omega));have H1:=Lib.hid (And.intro h1 (And.intro h9 (And.intro hE hji)));have HV:=Lib.hid (And.intro hz (And.intro hx (And.intro hu hy)));have HJ:=Lib.hid (And.intro hj1 hlt);have K7:=Lib.hid (fun w=>r05_rightL x 7 7 w rfl X1.out (by decide) (by decide));have K18:=Lib.hid (fun w=>r05_rightL x 18 18 w rfl X1.out (by decide) (by decide));have K17:=Lib.hid (fun w=>r05_rightL y 17 17 w rfl XE.out (by decide) (by decide));have K19:=Lib.hid (fun w=>r05_rightL y 19 19 w rfl XE.out (by decide) (by decide));clear h1 h9 hE hji hz hx hu hy hj1 hj2 hlt hs;have hgl:=HCI.out.lt;have HGL:=Lib.hid hgl;clear hgl;go_wp2_with fail;go_region_held3 (fun w'=>w'.cell? ⟨w.heap.size,i1,none⟩=some (.int .u32 x)∧w'.cell? ⟨w.heap.size,iE,none⟩=some (.int .u32 y)) (first|go_keep) (first|fail)
       go_wp2_with (first
        | (go_at_call 204;(with_reducible refine (K7.out _).mono ?_);rintro e w5 ⟨rfl,hb5⟩;have HC5:=Lib.hid (C32.below (w:=wr.drew) HCI.out hb5 HGL.out);have HB5:=Lib.hid (HBI.out.drew.trans (hb5.mono (Nat.le_of_lt HGL.out)));clear hb5)
        | (go_at_call 204;(with_reducible refine (K18.out _).mono ?_);rintro e w6 ⟨rfl,hb6⟩;have HC6:=Lib.hid (HC5.out.below hb6 HC5.out.lt);have HB6:=Lib.hid (HB5.out.trans (hb6.mono (Nat.le_of_lt HC5.out.lt)));clear hb6)
        | (go_at_call 204;(with_reducible refine (K17.out _).mono ?_);rintro e w7 ⟨rfl,hb7⟩;have HC7:=Lib.hid (HC6.out.below hb7 HC6.out.lt);have HB7:=Lib.hid (HB6.out.trans (hb7.mono (Nat.le_of_lt HC6.out.lt)));clear hb7)
        | (go_at_call 204;(with_reducible refine (K19.out _).mono ?_);rintro e w8 ⟨rfl,hb8⟩;have HC8:=Lib.hid (HC7.out.below hb8 HC7.out.lt);have HB8:=Lib.hid (HB7.out.trans (hb8.mono (Nat.le_of_lt HC7.out.lt)));clear hb8))
       have c0:=HC8.out.cell (k:=i) (by have:=H1.out;have:=HJ.out;rw [HLEN.out];omega);have c9:=HC8.out.cell (k:=i9) (by have:=H1.out;have:=HJ.out;rw [HLEN.out];omega);have cJ:=HC8.out.cell (k:=j) (by have:=H1.out;have:=HJ.out;rw [HLEN.out];omega);have cX:∃ v,w8.cell? ⟨w.heap.size,j,none⟩=some v:=⟨_,cJ⟩;have gJ:=HC8.out.free j;rw [HV.out.1] at c0;rw [HV.out.2.2.1] at c9;clear c1 cE;have nj:j≠i:=by have:=H1.out;omega
       have nj9:j≠i9:=by have:=H1.out;omega
       clear HCI HC5 HC6 HC7 HB5 HB6 HB7 K7 K18 K17 K19;go_region_held3 (fun w'=>w'.cell? ⟨w.heap.size,i,none⟩=some (.int .u32 z)∧w'.cell? ⟨w.heap.size,i9,none⟩=some (.int .u32 u)∧(∃ v,w'.cell? ⟨w.heap.size,j,none⟩=some v)∧w'.frozen? ⟨w.heap.size,j,none⟩=false) (first|assumption|(go_split_ands; (repeat' apply And.intro) <;> first | assumption | (refine off_hop nj ?_; assumption) | (refine off_hop nj9 ?_; assumption) | (refine some_hop ?_; assumption) | (refine free_hop ?_; assumption))|go_keep) (first|fail)
       all_goals
        go_wp2_with fail;go_roundw
        case rel =>
         obtain ⟨h1,h9,hE,hji⟩:=H1.out;obtain ⟨hz,hx,hu,hy⟩:=HV.out;obtain ⟨hj1,hlt⟩:=HJ.out;refine ⟨j+1,by rfl,by omega,by omega,?_,?_⟩
         · rw [show j+1-16=i+1 from by omega,← HLL.out,← laterW_step L i (by omega),h1,h9,hE,hz,hx,hu,hy,← hji,sched_word z x u y X1.out XE.out]
           exact HC8.out.set j _
         · exact (HB8.out.setCell (p:=⟨w.heap.size,j,none⟩) (Nat.le_refl _) _).drew
        case measure=>have:=HJ.out;show 64-((j:Int)+1).toNat<64-(j:Int).toNat;omega
     · obtain rfl:j=64:=by omega
       have HC:Hid (C32 wr w.heap.size 198 (sched s.data.toList)):=Lib.hid (by rw [← laterW_last];exact HCI.out);clear hlt hj1 hj2 HCI;go_wp2_with fail;go_ret;exact ⟨⟨_,rfl,HC.out,Nat.le_refl _⟩,HBI.out⟩
end Go.Proofs.YtiacajjpkncomaaGreatDoor
namespace Go.Proofs.YtiacajjpkncomaaGreatDoor
open Go.RowKit
set_option maxRecDepth 100000
set_option linter.unusedVariables false
set_option maxHeartbeats 4000000
structure W8 (w:World) (g:Nat) (V:List Nat):Prop where
 len:V.length=8
 at_:∀ j,j<8→w.cell? ⟨g,j,none⟩=some (.int .u32 (V.getD j 0:Nat))
theorem W8.of {w:World} {g:Nat} {T:TypeId} {V:List Nat} (h:C32 w g T V) (hl:V.length=8):W8 w g V:=⟨hl,fun j hj=>h.cell (by omega)⟩
structure CpAt (w:World) (gs g5 g6 g:Nat) (S ws V:List Nat) (wr:World):Prop where
 st:C32 wr gs 198 S
 sc:C32 wr g5 198 ws
 cn:C32 wr g6 198 consts
 v:W8 wr g V
 bel:Below w.heap.size w wr
theorem CpAt.next {w wr wq:World} {gs g5 g6 g:Nat} {S ws V:List Nat} (h:CpAt w gs g5 g6 g S ws V wr) (hb:Below wr.heap.size wr wq):CpAt w gs g5 g6 g S ws V wq :=
 ⟨h.st.below hb h.st.lt,h.sc.below hb h.sc.lt,h.cn.below hb h.cn.lt,⟨h.v.len,fun j hj=>by
  have hc:=h.v.at_ j hj;have hlt:g<wr.heap.size:=World.block_lt_of_cell? wr ⟨g,j,none⟩ hc
  exact (hb.cell (p:=⟨g,j,none⟩) hlt).trans hc⟩,h.bel.trans (hb.mono h.bel.size)⟩
theorem CpAt.drew {w wr:World} {gs g5 g6 g:Nat} {S ws V:List Nat} (h:CpAt w gs g5 g6 g S ws V wr):CpAt w gs g5 g6 g S ws V wr.drew:=h.next (Below.refl _ _).drew
theorem CpAt.three {w wr:World} {gs g5 g6 g k Kk Wk h d:Nat} {S ws V:List Nat} (hc:CpAt w gs g5 g6 g S ws V wr) (hk:consts.getD k 0=Kk∧ws.getD k 0=Wk∧V.getD 7 0=h∧V.getD 3 0=d∧k<64∧ws.length=64) :
  wr.cell? ⟨g,7,none⟩=some (.int .u32 h)∧wr.cell? ⟨g6,k,none⟩=some (.int .u32 Kk)∧wr.cell? ⟨g5,k,none⟩=some (.int .u32 Wk):=by
 obtain ⟨h1,h2,h3,h4,h5,h6⟩:=hk;refine ⟨?_,?_,?_⟩
 · rw [hc.v.at_ 7 (by decide),h3]
 · rw [hc.cn.cell (k:=k) (by exact h5),h1]
 · rw [hc.sc.cell (k:=k) (by omega),h2]
theorem CpAt.turn {w wr:World} {gs g5 g6 g:Nat} {S ws V V':List Nat} (h:CpAt w gs g5 g6 g S ws V wr) (hl:V'.length=8):CpAt w gs g5 g6 wr.heap.size S ws V' (wr.alloc (.cells (u32Cells V') 198)) :=
 ⟨h.st.alloc _,h.sc.alloc _,h.cn.alloc _,W8.of (C32.new _ _ _) hl,h.bel.alloc h.bel.size _⟩
theorem r05_compress (gs:Nat) (S:List Nat) (s:ByteArray) (w:World) (hs:s.size=64) (hS:C32 w gs 198 S) (hl:S.length=8) (hlt:∀ x∈S,x<4294967296) :
  Calls Tryz.prog 196 #[.slice (some ⟨gs,0,none⟩) 8 8,.string s] w fun e w'=>(∃ g,e=.returned (.slice (some ⟨g,0,none⟩) 8 8)∧C32 w' g 198 (after S s.data.toList)∧w.heap.size≤g)∧Below w.heap.size w w':=by
 have KS:=Lib.hid (fun w=>r05_schedule s w hs);obtain ⟨s0,s1,s2,s3,s4,s5,s6,s7,hSe⟩:=eight S hl;have HS:=Lib.hid hS;have HLT:=Lib.hid hlt;have HL:=Lib.hid hl;have HSE:=Lib.hid hSe;have hgs:=hS.lt;clear hS hlt hl hSe
 go_enter Tryz.func196, Tryz.ntmps196
 go_wp2_with (first
  | (go_at_call 202;(with_reducible refine (KS.out _).mono ?_);rintro e w1 ⟨⟨g5,rfl,hc5,hg5⟩,hb1⟩;have HC5:=Lib.hid hc5;have HS1:=Lib.hid (HS.out.below hb1 hgs);have HB1:=Lib.hid hb1;have HG5:=Lib.hid hg5;clear hc5 hg5 hb1)
  | (go_at_call 203;(with_reducible refine (r05_constants _).mono ?_);rintro e w2 ⟨⟨g6,rfl,hc6,hg6⟩,hb2⟩
     have HC6:=Lib.hid hc6;have HS2:=Lib.hid (HS1.out.below hb2 HS1.out.lt);have HC5:=Lib.hid (HC5.out.below hb2 HC5.out.lt);have HB2:=Lib.hid (HB1.out.trans (hb2.mono HB1.out.size));have y:=HS2.out;rw [HSE.out] at y;have y0:=y.cell (k:=0) (by simp);have y1:=y.cell (k:=1) (by simp);have y2:=y.cell (k:=2) (by simp);have y3:=y.cell (k:=3) (by simp);have y4:=y.cell (k:=4) (by simp);have y5:=y.cell (k:=5) (by simp);have y6:=y.cell (k:=6) (by simp);have y7:=y.cell (k:=7) (by simp);have hl2:gs<w2.heap.size:=HS2.out.lt
     clear hc6 hg6 hb2 y))
 obtain ⟨ws,hws⟩:∃ ws,ws=sched s.data.toList:=⟨_,rfl⟩;rw [← hws] at HC5;have HWS:=Lib.hid hws;obtain ⟨cp,hcp⟩:∃ cp,cp=(Question.appendCap 8 0 198).cut (w2.tape w2.drawn (Question.appendCap 8 0 198)):=⟨_,rfl⟩;rw [← hcp]
 have hw8:W8 ((w2.alloc (.cells #[] 198)).alloc (.cells (#[.int .u32 s0,.int .u32 s1,.int .u32 s2,.int .u32 s3,.int .u32 s4,.int .u32 s5,.int .u32 s6,.int .u32 s7]++Builtin.zeroCells #[.int .u32 0] (cp-8)) 198)).drew (w2.heap.size+1) S:=by
  refine ⟨HL.out,fun j hj=>?_⟩;rw [HSE.out];have hh:((w2.alloc (.cells #[] 198)).alloc (.cells (#[.int .u32 s0,.int .u32 s1,.int .u32 s2,.int .u32 s3,.int .u32 s4,.int .u32 s5,.int .u32 s6,.int .u32 s7]++Builtin.zeroCells #[.int .u32 0] (cp-8)) 198)).drew.heap[w2.heap.size+1]?=some (.cells (#[.int .u32 s0,.int .u32 s1,.int .u32 s2,.int .u32 s3,.int .u32 s4,.int .u32 s5,.int .u32 s6,.int .u32 s7]++Builtin.zeroCells #[.int .u32 0] (cp-8)) 198 (0,0)):=heap_alloc2_new w2 _ _;simp only [World.cell?,hh];rw [Array.getElem?_append_left (by simp;omega)]
  match j,hj with
  | 0,_|1,_|2,_|3,_|4,_|5,_|6,_|7,_=>rfl
 have hb7:Below w2.heap.size w2 ((w2.alloc (.cells #[] 198)).alloc (.cells (#[.int .u32 s0,.int .u32 s1,.int .u32 s2,.int .u32 s3,.int .u32 s4,.int .u32 s5,.int .u32 s6,.int .u32 s7]++Builtin.zeroCells #[.int .u32 0] (cp-8)) 198)).drew:=(((Below.refl _ _).alloc (Nat.le_refl _) _).alloc (by simp) _).drew;have HQ0:=Lib.hid (show CpAt w gs g5 g6 (w2.heap.size+1) S ws S _ from ⟨HS2.out.below hb7 HS2.out.lt,HC5.out.below hb7 HC5.out.lt,HC6.out.below hb7 HC6.out.lt,hw8,HB2.out.trans (hb7.mono HB2.out.size)⟩);have HGE:=Lib.hid (show w.heap.size≤w2.heap.size+1 from Nat.le_succ_of_le HB2.out.size);have HWL:=Lib.hid (fun k=>(by rw [hws];exact sched_lt s.data.toList k:ws.getD k 0<4294967296));have HWN:=Lib.hid (by rw [hws];exact sched_len s.data.toList:ws.length=64);clear hws hcp hw8 hb7 y0 y1 y2 y3 y4 y5 y6 y7 HS HS1 HS2 HC5 HC6 HB1 HB2 HG5 KS;go_loopw [7,8] (fun v7 v8 wr=>∃ k g c:Nat,v7=.slice (some ⟨g,0,none⟩) 8 c∧v8=.int .i64 k∧k≤64∧w.heap.size≤g∧(0<k→c=8∧C32 wr g 198 (roundsF S ws k))∧CpAt w gs g5 g6 g S ws (roundsF S ws k) wr) (fun _ v _=>64-(intOf v).toNat)
 case atStart=>exact ⟨0,_,_,rfl,rfl,by decide,HGE.out,fun h=>absurd h (Nat.lt_irrefl 0),HQ0.out⟩
 case round =>
  clear HQ0 HGE;obtain ⟨k,g,c,rfl,rfl,hk,hge,hlast,hq⟩:=hrel;have HQ:=Lib.hid hq;have HLA:=Lib.hid hlast;have HGE:=Lib.hid hge;clear hlast hge hq;by_cases hlt:k<64
  · have k1:decide ((k:Int)<64)=true:=decide_eq_true (by omega)
    have HLK:=Lib.hid hlt;obtain ⟨V,hV⟩:∃ V,V=roundsF S ws k:=⟨_,rfl⟩;rw [← hV] at HQ;have hVl:∀ x∈V,x<4294967296:=by rw [hV];exact roundsF_lt S ws HLT.out k
    obtain ⟨a,b,cc,d,e,f,gg,h,hVe⟩:=eight V HQ.out.v.len;have hlts:=hVl;rw [hVe] at hlts;obtain ⟨la,lb,lc,ld,le,lf,lg,lh⟩:=eight_lt hlts;have LA:=Lib.hid la;have LB:=Lib.hid lb;have LC:=Lib.hid lc;have LE:=Lib.hid le;have LF:=Lib.hid lf;have LG:=Lib.hid lg;have HVE:=Lib.hid hVe;have HV:=Lib.hid hV;have c0:=HQ.out.v.at_ 0 (by decide);have c1:=HQ.out.v.at_ 1 (by decide);have c2:=HQ.out.v.at_ 2 (by decide);have c4:=HQ.out.v.at_ 4 (by decide);have c5:=HQ.out.v.at_ 5 (by decide);have c6:=HQ.out.v.at_ 6 (by decide);rw [hVe] at c0 c1 c2 c4 c5 c6;simp only [List.getD_cons_zero,List.getD_cons_succ] at c0 c1 c2 c4 c5 c6;obtain ⟨Kk,hKk⟩:∃ x,x=consts.getD k 0:=⟨_,rfl⟩;obtain ⟨Wk,hWk⟩:∃ x,x=ws.getD k 0:=⟨_,rfl⟩;have HKW:Hid (consts.getD k 0=Kk∧ws.getD k 0=Wk∧V.getD 7 0=h∧V.getD 3 0=d∧k<64∧ws.length=64):=Lib.hid ⟨hKk.symm,hWk.symm,by rw [hVe];rfl,by rw [hVe];rfl,hlt,HWN.out⟩;obtain ⟨tN,htN⟩:∃ t,t=add32 (add32 (add32 (add32 h (xor3 e 6 11 25)) (xor32 (and32 e f) (and32 (not32 e) gg))) Kk) Wk:=⟨_,rfl⟩;obtain ⟨uN,huN⟩:∃ u,u=add32 (xor3 a 2 13 22) (xor32 (xor32 (and32 a b) (and32 a cc)) (and32 b cc)):=⟨_,rfl⟩
    have HRF:Hid (roundsF S ws (k+1)=[add32 tN uN,a,b,cc,add32 d tN,e,f,gg]):=Lib.hid (by
     show roundF (roundsF S ws k) (consts.getD k 0) (ws.getD k 0)=_;rw [← hV,← hKk,← hWk,hVe,htN,huN]
     rfl)
    have HT:=Lib.hid htN;have HU:=Lib.hid huN;have p0:(0:Int)≤(k:Int):=by omega
    have p64:(k:Int)<64:=by omega
    have E6:=Lib.hid (fun w=>r05_rightL e 6 6 w rfl le (by decide) (by decide));have E11:=Lib.hid (fun w=>r05_rightL e 11 11 w rfl le (by decide) (by decide));have E25:=Lib.hid (fun w=>r05_rightL e 25 25 w rfl le (by decide) (by decide));have A2:=Lib.hid (fun w=>r05_rightL a 2 2 w rfl la (by decide) (by decide));have A13:=Lib.hid (fun w=>r05_rightL a 13 13 w rfl la (by decide) (by decide));have A22:=Lib.hid (fun w=>r05_rightL a 22 22 w rfl la (by decide) (by decide));clear hVl hlts la lb lc ld le lf lg lh hVe hV hKk hWk htN huN hlt hk HLA;go_wp2_with fail;go_region_held3 (fun w'=>w'.cell? ⟨g,0,none⟩=some (.int .u32 a)∧w'.cell? ⟨g,1,none⟩=some (.int .u32 b)∧w'.cell? ⟨g,2,none⟩=some (.int .u32 cc)∧w'.cell? ⟨g,4,none⟩=some (.int .u32 e)∧w'.cell? ⟨g,5,none⟩=some (.int .u32 f)∧w'.cell? ⟨g,6,none⟩=some (.int .u32 gg)) (first|go_keep) (first|fail);clear c0 c1 c2 c4 c5 c6;have HQd:=Lib.hid HQ.out.drew;obtain ⟨c7,ck,cw⟩:=HQd.out.three HKW.out;go_upto_region 7 with fail
    go_cut [15] (fun v wx=>v=.int .u32 (tN:Nat)∧CpAt w gs g5 g6 g S ws V wx)
    case first =>
     as_aux_lemma =>
     go_region_held3 (fun w'=>w'.cell? ⟨g,7,none⟩=some (.int .u32 h)∧w'.cell? ⟨g6,k,none⟩=some (.int .u32 Kk)∧w'.cell? ⟨g5,k,none⟩=some (.int .u32 Wk)) (first|go_keep) (first
      | (go_at_call 204;(with_reducible refine (E6.out _).mono ?_);rintro e w5 ⟨rfl,hb5⟩;have HQ5:Hid (CpAt w gs g5 g6 g S ws V w5):=(by first|exact Lib.hid (HQd.out.next hb5)|exact Lib.hid (HQd.out.drew.next hb5));obtain ⟨c7,ck,cw⟩:=HQ5.out.three HKW.out;clear hb5)
      | (go_at_call 204;(with_reducible refine (E11.out _).mono ?_);rintro e w6 ⟨rfl,hb6⟩;have HQ6:Hid (CpAt w gs g5 g6 g S ws V w6):=(by first|exact Lib.hid (HQ5.out.next hb6)|exact Lib.hid (HQ5.out.drew.next hb6));obtain ⟨c7,ck,cw⟩:=HQ6.out.three HKW.out;clear hb6)
      | (go_at_call 204;(with_reducible refine (E25.out _).mono ?_);rintro e w7 ⟨rfl,hb7⟩;have HQ7:Hid (CpAt w gs g5 g6 g S ws V w7):=(by first|exact Lib.hid (HQ6.out.next hb7)|exact Lib.hid (HQ6.out.drew.next hb7));obtain ⟨c7,ck,cw⟩:=HQ7.out.three HKW.out;clear hb7))
     all_goals
      go_wp2_with fail;go_meet;exact ⟨by rw [HT.out,← round_t e f gg _ Kk Wk LE.out LF.out LG.out],by first|exact HQ7.out|exact HQ7.out.drew⟩
    case rest =>
     obtain ⟨rfl,hq7⟩:=hcut;have HQ7:=Lib.hid hq7;clear hq7 c7 ck cw HQd HQ E6 E11 E25;go_upto_region 8 with fail
     go_cut [16] (fun v wx=>v=.int .u32 (uN:Nat)∧CpAt w gs g5 g6 g S ws V wx)
     case first =>
      as_aux_lemma =>
      go_wp2_with (first
       | (go_at_call 204;(with_reducible refine (A2.out _).mono ?_);rintro e w8 ⟨rfl,hb8⟩;have HQ8:=Lib.hid (HQ7.out.next hb8);clear hb8)
       | (go_at_call 204;(with_reducible refine (A13.out _).mono ?_);rintro e w9 ⟨rfl,hb9⟩;have HQ9:=Lib.hid (HQ8.out.next hb9);clear hb9)
       | (go_at_call 204;(with_reducible refine (A22.out _).mono ?_);rintro e w10 ⟨rfl,hb10⟩;have HQ10:=Lib.hid (HQ9.out.next hb10);clear hb10))
      go_meet;exact ⟨by rw [HU.out,← round_u a b cc LA.out LB.out LC.out],HQ10.out⟩
     case rest =>
      obtain ⟨rfl,hq8⟩:=hcut;have HQ8:=Lib.hid hq8;have c3:=hq8.v.at_ 3 (by decide);rw [HKW.out.2.2.2.1] at c3;clear hq8 HQ7 A2 A13 A22;go_wp2_with fail;have e1:=wrap_add32 tN uN;have e2:=wrap_add32 d tN;rw [e1,e2];have hcells:(#[.int .u32 ((add32 tN uN:Nat):Int),.int .u32 (a:Nat),.int .u32 (b:Nat),.int .u32 (cc:Nat),.int .u32 ((add32 d tN:Nat):Int),.int .u32 (e:Nat),.int .u32 (f:Nat),.int .u32 (gg:Nat)]:Array Value)=u32Cells (roundsF S ws (k+1)):=by rw [HRF.out];rfl
      rw [hcells];refine ⟨⟨k+1,wc.heap.size,8,rfl,rfl,HLK.out,HQ8.out.bel.size,fun _=>⟨rfl,C32.new _ _ _⟩,HQ8.out.turn (roundsF_len S ws HL.out (k+1))⟩,?_⟩;have:=HLK.out;show 64-((k:Int)+1).toNat<64-(k:Int).toNat;omega
  · obtain rfl:k=64:=by omega
    obtain ⟨rfl,hcx⟩:=HLA.out (by decide);obtain ⟨X,hX⟩:∃ X,X=roundsF S ws 64:=⟨_,rfl⟩;rw [← hX] at hcx HQ;have hXl:X.length=8:=HQ.out.v.len;obtain ⟨x0,x1,x2,x3,x4,x5,x6,x7,hXe⟩:=eight X hXl;have HM0:Hid (C32 wr g 198 (mixW X S 0)):=Lib.hid (by rw [hXe,mixW_zero,← hXe];exact hcx);have HST:=Lib.hid HQ.out.st;have HBE:=Lib.hid HQ.out.bel;have hne:¬ g=gs:=by have:=HGE.out;omega
    have HXE:=Lib.hid hX;have HLAST:Hid (mixW X S 8=after S s.data.toList):=Lib.hid (mixW_last X S s.data.toList (by rw [hX,HWS.out]));clear hcx hX hXl hXe HQ HLA HWL HWN hlt hk;go_wp2_with fail;rw [show ((64:Nat):Int)=64 from rfl];go_loopw [17] (fun v wq=>∃ j:Nat,v=.int .i64 j∧j≤8∧C32 wq g 198 (mixW X S j)∧C32 wq gs 198 S∧Below w.heap.size w wq) (fun v _=>8-(intOf v).toNat)
    case atStart=>exact ⟨0,rfl,by decide,HM0.out,HST.out,HBE.out⟩
    case round =>
     clear HM0 HST HBE;obtain ⟨j,rfl,hj,hcm,hcs,hbe⟩:=hrel;have HCM:=Lib.hid hcm;have HCS:=Lib.hid hcs;have HBE:=Lib.hid hbe;by_cases hlt:j<8
     · have cm:=hcm.cell (k:=j) (by rw [mixW_len];exact hlt)
       have fm:=hcm.free j;have cs:=hcs.cell (k:=j) (by rw [HL.out];exact hlt);rw [mixW_at X S hlt] at cm;obtain ⟨xj,hxj⟩:∃ x,x=X.getD j 0:=⟨_,rfl⟩;obtain ⟨sj,hsj⟩:∃ x,x=S.getD j 0:=⟨_,rfl⟩;rw [← hxj] at cm;rw [← hsj] at cs;have HSTEP:Hid ((mixW X S j).set j (add32 xj sj)=mixW X S (j+1)):=Lib.hid (by rw [hxj,hsj];exact mixW_step X S hlt);have HLJ:=Lib.hid hlt;have p0:(0:Int)≤(j:Int):=by omega
       have p8:(j:Int)<8:=by omega
       have hge:=HGE.out;clear hcm hcs hbe hxj hsj hlt hj;go_wp2_with fail;go_region_law (fail)
       all_goals
        go_wp2_with fail;go_roundw
        case rel =>
         refine ⟨j+1,by go_num,HLJ.out,?_,HCS.out.far (fun e=>hne e.symm) _,(HBE.out.setCell (p:=⟨g,j,none⟩) HGE.out _).drew⟩;rw [← HSTEP.out,wrap_add32];exact HCM.out.set j _
        case measure=>have:=HLJ.out;show 8-((j:Int)+1).toNat<8-(j:Int).toNat;omega
     · obtain rfl:j=8:=by omega
       rw [HLAST.out] at hcm;have HF:=Lib.hid hcm;clear hcm hcs hbe hlt hj;go_wp2_with fail;go_ret;exact ⟨⟨g,rfl,HF.out,HGE.out⟩,HBE.out⟩
end Go.Proofs.YtiacajjpkncomaaGreatDoor
namespace Go.Proofs.YtiacajjpkncomaaGreatDoor
open Go.RowKit
set_option maxRecDepth 100000
set_option linter.unusedVariables false
set_option maxHeartbeats 4000000
theorem str_mid (s:ByteArray) (i n:Nat) (h:i+n≤s.size):(s.extract i (i+n)).data.toList=(s.data.toList.drop i).take n:=by
 rw [ByteArray.data_extract,Array.toList_extract];simp [List.extract_eq_take_drop]
theorem r05_Sum (s:ByteArray) (w:World) (hs:s.size≤100000) :
  Calls Tryz.prog 180 #[.string s] w fun e w'=>e=.returned (.string (sumS s))∧Below w.heap.size w w':=by
 have KP:=Lib.hid (fun w=>r05_padded s w (by omega));obtain ⟨P,hP⟩:∃ P,P=padded s.data.toList:=⟨_,rfl⟩;rw [← hP] at KP
 have hPl:P.length≤100100∧P.length%64=0:=by
  rw [hP,padded_eq,List.length_append,padTo_len,lenBytes_len,size_list];unfold zerosOf;omega
 obtain ⟨p,hp⟩:∃ p:ByteArray,p=⟨P.toArray⟩:=⟨_,rfl⟩;rw [← hp] at KP;have hpz:p.size=P.length:=by rw [hp];show P.toArray.size=_;simp
 have hpd:p.data.toList=P:=by rw [hp]
 have HP:=Lib.hid hP;have HPD:=Lib.hid hpd;clear hP hp hpd hs
 go_enter Tryz.func180, Tryz.ntmps180
 go_wp2_with (go_at_call 195;(with_reducible refine (KP.out _).mono ?_);rintro e w2 ⟨rfl,hb2⟩
              have HC0:=Lib.hid ((C32.new w 198 state0).below hb2 (by simp));have HE0:=Lib.hid (((Below.refl w.heap.size w).alloc (Nat.le_refl _) (.cells (u32Cells state0) 198)).trans (hb2.mono (by simp)))
              clear hb2)
 obtain ⟨n,hn⟩:∃ n,n=p.size:=⟨_,rfl⟩;have HN:=Lib.hid hn;have HNB:=Lib.hid (show n≤100100∧n%64=0∧P.length=n by rw [hn,hpz];exact ⟨hPl.1,hPl.2,rfl⟩);clear hpz hPl hn KP;go_loopw [3,5] (fun v3 v5 wr=>∃ (i g:Nat) (V:List Nat),v3=.slice (some ⟨g,0,none⟩) 8 8∧v5=.int .i64 ((64*i:Nat):Int)∧64*i≤n∧V.length=8∧(∀ x∈V,x<4294967296)∧C32 wr g 198 V∧blocksF ((n-64*i)/64) V (P.drop (64*i))=blocksF (n/64) state0 P∧Below w.heap.size w wr) (fun _ v _=>n-(intOf v).toNat)
 case atStart=>exact ⟨0,_,state0,rfl,rfl,Nat.zero_le _,rfl,by decide,HC0.out,rfl,HE0.out⟩
 case round =>
  clear HC0 HE0;obtain ⟨i,g,V,rfl,rfl,hi,hV8,hVl,hc,hbl,hbe⟩:=hrel;have HBL:=Lib.hid hbl;have HBE:=Lib.hid hbe;have hN:=HN.out;have hNB:=HNB.out;by_cases hlt:64*i<n
  · obtain ⟨o,ho⟩:∃ o,o=64*i:=⟨_,rfl⟩
    rw [← ho] at hbl hlt hi HBL ⊢;have h64:o+64≤n:=by omega
    obtain ⟨b,hb⟩:∃ b,b=p.extract o (o+64):=⟨_,rfl⟩;have hbs:b.size=64:=by rw [hb,ByteArray.size_extract];omega
    have hbd:b.data.toList=(P.drop o).take 64:=by rw [hb,str_mid p o 64 (by omega),HPD.out]
    have KC:=fun wq (h:C32 wq g 198 V)=>r05_compress g V b wq hbs h hV8 hVl
    rw [hbd] at KC;have HB:=Lib.hid hb;have HBD:=Lib.hid hbd;have HO:=Lib.hid ho;have HC:=Lib.hid hc;have p1:decide ((o:Int)<(p.size:Int))=true:=decide_eq_true (by omega);have p2:(o:Int)+64≤(p.size:Int):=by omega
    have p4:wrap64 ((o:Int)+64)=(o:Int)+64:=IntWalk.wrap64_in _ (by omega);rw [hb] at KC;have KC:=Lib.hid KC;have p3:(0:Int)≤(o:Int):=by omega
    have HLT:=Lib.hid h64;clear hb hbs hbd hc hbl hbe ho hlt hi hN hNB;go_wp2_with (go_at_call 196;(with_reducible refine (KC.out _ HC.out).mono ?_);rintro e w5 ⟨⟨g2,rfl,hc2,hg2⟩,hb5⟩;have HC2:=Lib.hid hc2;have HE2:=Lib.hid (HBE.out.trans (hb5.mono HBE.out.size));clear hc2 hg2 hb5);have w1:Value.int .i64 (wrap64 ((o:Int)+64))=.int .i64 ((64*(i+1):Nat):Int):=by rw [p4];have:=HO.out;congr 1;omega
    refine ⟨⟨i+1,g2,_,rfl,w1,by have:=HLT.out;have:=HO.out;omega,after_len _ _,after_lt _ _,HC2.out,?_,HE2.out⟩,?_⟩
    · have h:=HBL.out
      rw [show (n-o)/64=(n-64*(i+1))/64+1 by have:=HLT.out;have:=HO.out;omega] at h;rw [← h,show 64*(i+1)=o+64 by have:=HO.out;omega,← List.drop_drop];rfl
    · rw [p4]
      have:=HLT.out;show n-((o:Int)+64).toNat<n-(o:Int).toNat;omega
  · have hin:64*i=n:=by omega
    have hsum:outBytes V=sumL s.data.toList:=by
     have hp3:=HNB.out.2.2;unfold sumL;rw [← HP.out,hp3,← hbl,hin,Nat.sub_self];rfl
    have HSUM:=Lib.hid hsum;have HC:=Lib.hid hc;have HVL:=Lib.hid hV8;rw [show 64*i=p.size by rw [hin,hN]];obtain ⟨v0,v1,v2,v3,v4,v5,v6,v7,hVe⟩:=eight V HVL.out;clear hsum hc hV8 hVl hbl hbe hi hlt hin hN hNB;go_wp2_with fail;obtain ⟨W0,hW0⟩:∃ W,W=wr:=⟨_,rfl⟩;rw [← hW0] at HC HBE ⊢;clear hW0;go_loopw [6,7] (fun u6 v7 wq=>∃ k:Nat,v7=.int .i64 k∧k≤8∧OwnB wq W0.heap.size u6 (4*k) (outBytes (List.take k V))∧Below W0.heap.size W0 wq) (fun _ v _=>8-(intOf v).toNat)
    case atStart=>exact ⟨0,rfl,by decide,OwnB.nil_ _ _,Below.refl _ _⟩
    case round =>
     obtain ⟨k,rfl,hk,how,hbe⟩:=hrel;have HOW:=Lib.hid how;have HEB:=Lib.hid hbe;have HES:=Lib.hid hbe.size;have HCK:=Lib.hid (HC.out.below hbe HC.out.lt);clear how hbe;by_cases hlt:k<8
     · obtain ⟨x,hx⟩:∃ x,V.getD k 0=x:=⟨_,rfl⟩
       have cx:=HCK.out.cell (k:=k) (by rw [HVL.out];exact hlt);rw [hx] at cx;obtain ⟨b3,h3⟩:∃ b,b=UInt8.ofNat (x/16777216):=⟨_,rfl⟩;obtain ⟨b2,h2⟩:∃ b,b=UInt8.ofNat (x/65536):=⟨_,rfl⟩;obtain ⟨b1,h1⟩:∃ b,b=UInt8.ofNat (x/256):=⟨_,rfl⟩;obtain ⟨b0,h0⟩:∃ b,b=UInt8.ofNat x:=⟨_,rfl⟩;have e3:((x:Int)/16777216%256)=(b3.toNat:Int):=by rw [h3,UInt8.toNat_ofNat'];omega
       have e2:((x:Int)/65536%256)=(b2.toNat:Int):=by rw [h2,UInt8.toNat_ofNat'];omega
       have e1:((x:Int)/256%256)=(b1.toNat:Int):=by rw [h1,UInt8.toNat_ofNat'];omega
       have e0:((x:Int)%256)=(b0.toNat:Int):=by rw [h0,UInt8.toNat_ofNat'];omega
       have HBS:=Lib.hid (show outBytes (List.take k V)++[b3,b2,b1,b0]=outBytes (List.take (k+1) V) by
        rw [h3,h2,h1,h0,← hx]
        exact outBytes_step _ k (by rw [HVL.out];exact hlt))
       have HLT:=Lib.hid hlt;have p0:(0:Int)≤(k:Int):=by omega
       have p8:(k:Int)<8:=by omega
       clear h3 h2 h1 h0 hx hlt hk
       go_wp2_with (at_builtin;refine wpList_append_own rfl (.tmp 33) (.tmp 45) rfl W0.heap.size u6 (4*k) _ rfl (HOW.out.alloc HES.out _) _ 0 4 4 [b3,b2,b1,b0] rfl (row_four _ b3 b2 b1 b0 _) (by simp) rfl (by have:=HLT.out;omega) (by have:=HES.out;simp;omega) ?_
                    intro v9 w9 hown9 hb9;rw [HBS.out] at hown9;have HO9:=Lib.hid hown9;have HE9:=Lib.hid ((HEB.out.alloc HES.out _).trans hb9)
                    clear hown9 hb9)
       go_roundw
       case rel=>exact ⟨k+1,rfl,HLT.out,HO9.out,HE9.out⟩
       case measure=>have:=HLT.out;show 8-((k:Int)+1).toNat<8-(k:Int).toNat;omega
     · obtain rfl:k=8:=by omega
       rcases HOW.out.form HES.out with ⟨rfl,h0⟩|⟨g7,c7,rfl,hb7,hl7,hc7,hr7⟩
       · cases h0
       · have hcv:=conv_str hr7 32 c7 HOW.out.1
         have e7:(⟨(outBytes (List.take 8 V)).toArray⟩:ByteArray)=sumS s:=by
          unfold sumS;rw [← HSUM.out,List.take_of_length_le (by rw [HVL.out];exact Nat.le_refl _)]
         rw [e7] at hcv;have HEF:=Lib.hid (HBE.out.trans (HEB.out.mono HBE.out.size));clear e7 hr7 hb7 hl7;go_wp2_with fail;go_ret;exact ⟨rfl,HEF.out⟩
def xoP (L:List UInt8) (x:UInt8) (i:Nat):List UInt8:=((List.range i).map fun j=>L.getD j 0 ^^^ x)++List.replicate (64-i) 0
theorem xoP_len (L:List UInt8) (x:UInt8) (i:Nat) (h:i≤64):(xoP L x i).length=64:=by
 unfold xoP;simp;omega
theorem xoP_step (L:List UInt8) (x y:UInt8) (i:Nat) (h:i<64) (hy:y=L.getD i 0 ^^^ x):(xoP L x i).set i y=xoP L x (i+1):=by
 unfold xoP;rw [List.set_append_right _ _ (by simp),show 64-i=64-(i+1)+1 by omega,List.replicate_succ,List.length_map,List.length_range,Nat.sub_self,List.set_cons_zero,hy,List.range_succ,List.map_append,List.append_assoc];rfl
theorem xoP_set2 (L:List UInt8) (x a b:UInt8) (i:Nat):((xoP L x i).set i a).set i b=(xoP L x i).set i b:=by rw [List.set_set]
theorem getD_out (L:List UInt8) (i:Nat) (h:L.length≤i):L.getD i 0=0:=by
 rw [List.getD_eq_getElem?_getD,List.getElem?_eq_none h];rfl
theorem r05_xored (key:ByteArray) (x:UInt8) (z:Int) (w:World) (hz:z=(x.toNat:Int)) (hk:key.size≤100000) :
  Calls Tryz.prog 181 #[.string key,.int .u8 z] w fun e w'=>e=.returned (.string ⟨(xoP key.data.toList x 64).toArray⟩)∧Below w.heap.size w w':=by
 subst hz;have hmk:∀ w:World,(Instr.makeSlice 94 (.int .i64 64) (.int .i64 64)).run Tryz.prog w=.ok (.slice (some ⟨w.heap.size,0,none⟩) 64 64) (w.alloc (.cells (cellsOf (List.replicate 64 0)) 5)):=fun w=>make_bytes 64 (by decide) w
 obtain ⟨CZ,hCZ⟩:∃ x,x=cellsOf (List.replicate 64 0):=⟨_,rfl⟩;rw [← hCZ] at hmk;have HCZ:=Lib.hid hCZ;have HK:=Lib.hid hk;clear hCZ hk
 go_enter Tryz.func181, Tryz.ntmps181
 go_wp2_with fail;have HB0:Hid (Bk (w.alloc (.cells CZ 5)) w.heap.size 5 (xoP key.data.toList x 0)):=Lib.hid (by rw [HCZ.out];exact Bk.new _ _ _);have HE0:=Lib.hid (show Below w.heap.size w (w.alloc (.cells CZ 5)) from (Below.refl _ _).alloc (Nat.le_refl _) _);clear hmk;go_loopw [6] (fun v wr=>∃ i:Nat,v=.int .i64 i∧i≤64∧Bk wr w.heap.size 5 (xoP key.data.toList x i)∧Below w.heap.size w wr) (fun v _=>64-(intOf v).toNat)
 case atStart=>exact ⟨0,rfl,by decide,HB0.out,HE0.out⟩
 case round =>
  clear HB0 HE0;obtain ⟨i,rfl,hi,hb,hbe⟩:=hrel;have HB:=Lib.hid hb;have HE:=Lib.hid hbe;by_cases hlt:i<64
  · have cw:=hb.cell (k:=i) (by rw [xoP_len _ _ _ (by omega)];exact hlt)
    have fw:=hb.free i;have HLT:=Lib.hid hlt;have p0:(0:Int)≤(i:Int):=by omega
    have p64:(i:Int)<64:=by omega
    by_cases hik:i<key.size
    · have HX:Hid (bits .xor .u8 ((key[i]'hik).toNat:Int) (x.toNat:Int)=(((key[i]'hik) ^^^ x).toNat:Int)):=Lib.hid (u8_xor _ _)
      have HG:Hid (((xoP key.data.toList x i).set i x).set i ((key[i]'hik) ^^^ x)=xoP key.data.toList x (i+1)):=Lib.hid (by
       rw [xoP_set2]
       exact xoP_step _ _ _ _ hlt (by rw [byte_get key i hik]))
      have pk:(i:Int)<(key.size:Int):=by omega
      clear hb hbe hlt hi;go_wp2_with fail;go_roundw
      case rel =>
       refine ⟨i+1,by go_num,HLT.out,?_,(HE.out.setCell (p:=⟨w.heap.size,i,none⟩) (Nat.le_refl _) _).setCell (p:=⟨w.heap.size,i,none⟩) (Nat.le_refl _) _⟩;rw [HX.out,← HG.out];exact (HB.out.set i x).set i _
      case measure=>have:=HLT.out;show 64-((i:Int)+1).toNat<64-(i:Int).toNat;omega
    · have HG:Hid ((xoP key.data.toList x i).set i x=xoP key.data.toList x (i+1)):=Lib.hid (xoP_step _ _ _ _ hlt (by
       rw [getD_out _ _ (by rw [size_list];omega)]
       simp))
      have pk:¬ (i:Int)<(key.size:Int):=by omega
      clear hb hbe hlt hi;go_wp2_with fail;go_roundw
      case rel =>
       refine ⟨i+1,by go_num,HLT.out,?_,HE.out.setCell (p:=⟨w.heap.size,i,none⟩) (Nat.le_refl _) _⟩;rw [← HG.out];exact HB.out.set i x
      case measure=>have:=HLT.out;show 64-((i:Int)+1).toNat<64-(i:Int).toNat;omega
  · obtain rfl:i=64:=by omega
    have hcv:=conv_str hb.row 64 64 (xoP_len _ _ _ (by decide));clear hb hbe hlt hi;go_wp2_with fail;go_ret;exact ⟨rfl,HE.out⟩
theorem xoP_all (L:List UInt8) (x:UInt8):xoP L x 64=(List.range 64).map fun i=>L.getD i 0 ^^^ x:=by
 unfold xoP;rw [Nat.sub_self,List.replicate_zero,List.append_nil]
theorem macS_xo (key s K:ByteArray) (hK:K=if 64<key.size then sumS key else key) (h:K.size≤64) :
  macS key s=sumS (⟨(xoP K.data.toList 92 64).toArray⟩++sumS (⟨(xoP K.data.toList 54 64).toArray⟩++s)):=by
 rw [macS_eq key s K hK h,xorK_last K 92 h,xorK_last K 54 h,xoP_all,xoP_all]
theorem xoP_size (L:List UInt8) (x:UInt8):(⟨(xoP L x 64).toArray⟩:ByteArray).size=64:=by
 show (xoP L x 64).toArray.size=64;rw [List.size_toArray,xoP_len _ _ _ (by decide)]
theorem r05_Mac (key s:ByteArray) (w:World) (hk:key.size≤100000) (hs:s.size≤90000) :
  Calls Tryz.prog 154 #[.string key,.string s] w fun e w'=>e=.returned (.string (macS key s))∧Below w.heap.size w w':=by
 obtain ⟨K,hK⟩:∃ K,K=if 64<key.size then sumS key else key:=⟨_,rfl⟩
 have hKz:K.size≤64:=by
  rw [hK]
  split
  · rw [sumS_size];decide
  · omega
 have HM:=Lib.hid (macS_xo key s K hK hKz);have K92:=fun w=>r05_xored K 92 92 w rfl (by omega)
 have K54:=fun w=>r05_xored K 54 54 w rfl (by omega)
 have z1:=xoP_size K.data.toList 92;have z2:=xoP_size K.data.toList 54;obtain ⟨A,hA⟩:∃ A:ByteArray,A=⟨(xoP K.data.toList 92 64).toArray⟩:=⟨_,rfl⟩;obtain ⟨C,hC⟩:∃ A:ByteArray,A=⟨(xoP K.data.toList 54 64).toArray⟩:=⟨_,rfl⟩;rw [← hA] at K92 z1 HM;rw [← hC] at K54 z2 HM;have z3:(sumS (C++s)).size=32:=sumS_size _;have K1:=fun w=>r05_Sum key w hk
 have K2:=fun w=>r05_Sum (C++s) w (by rw [ByteArray.size_append];omega)
 obtain ⟨I,hI⟩:∃ I,I=sumS (C++s):=⟨_,rfl⟩;rw [← hI] at K2 z3 HM;have K3:=fun w=>r05_Sum (A++I) w (by rw [ByteArray.size_append];omega)
 obtain ⟨O,hO⟩:∃ q,q=sumS (A++I):=⟨_,rfl⟩;rw [← hO] at K3 HM;have K92:=Lib.hid K92;have K54:=Lib.hid K54;have K1:=Lib.hid K1;have K2:=Lib.hid K2;have K3:=Lib.hid K3;clear hA hC hI hO;by_cases h64:64<key.size
 · rw [if_pos h64] at hK
   rw [← hK] at K1;have p64:(64:Int)<(key.size:Int):=by omega
   clear hK hKz
   go_enter Tryz.func154, Tryz.ntmps154
   go_wp2_with (first
    | (go_at_call 180;(with_reducible refine (K1.out _).mono ?_);rintro e w1 ⟨rfl,hb1⟩;have HB1:=Lib.hid hb1;clear hb1)
    | (go_at_call 181;(with_reducible refine (K92.out _).mono ?_);rintro e w2 ⟨rfl,hb2⟩;have HB2:=Lib.hid (HB1.out.trans (hb2.mono HB1.out.size));clear hb2)
    | (go_at_call 181;(with_reducible refine (K54.out _).mono ?_);rintro e w3 ⟨rfl,hb3⟩;have HB3:=Lib.hid (HB2.out.trans (hb3.mono HB2.out.size));clear hb3)
    | (go_at_call 180;(with_reducible refine (K2.out _).mono ?_);rintro e w4 ⟨rfl,hb4⟩;have HB4:=Lib.hid (HB3.out.trans (hb4.mono HB3.out.size));clear hb4)
    | (go_at_call 180;(with_reducible refine (K3.out _).mono ?_);rintro e w5 ⟨rfl,hb5⟩;have HB5:=Lib.hid (HB4.out.trans (hb5.mono HB4.out.size));clear hb5))
   go_ret;exact ⟨ret_string HM.out.symm,HB5.out⟩
 · rw [if_neg h64] at hK
   subst hK;have p64:¬ (64:Int)<(K.size:Int):=by omega
   have HB1:=Lib.hid (Below.refl w.heap.size w);clear hKz
   go_enter Tryz.func154, Tryz.ntmps154
   go_wp2_with (first
    | (go_at_call 181;(with_reducible refine (K92.out _).mono ?_);rintro e w2 ⟨rfl,hb2⟩;have HB2:=Lib.hid (HB1.out.trans (hb2.mono HB1.out.size));clear hb2)
    | (go_at_call 181;(with_reducible refine (K54.out _).mono ?_);rintro e w3 ⟨rfl,hb3⟩;have HB3:=Lib.hid (HB2.out.trans (hb3.mono HB2.out.size));clear hb3)
    | (go_at_call 180;(with_reducible refine (K2.out _).mono ?_);rintro e w4 ⟨rfl,hb4⟩;have HB4:=Lib.hid (HB3.out.trans (hb4.mono HB3.out.size));clear hb4)
    | (go_at_call 180;(with_reducible refine (K3.out _).mono ?_);rintro e w5 ⟨rfl,hb5⟩;have HB5:=Lib.hid (HB4.out.trans (hb5.mono HB4.out.size));clear hb5))
   go_ret;exact ⟨ret_string HM.out.symm,HB5.out⟩
end Go.Proofs.YtiacajjpkncomaaGreatDoor
