/- What the rows of params share: the tables, opened tapes, the last step. Words for rows: a setting, two lists, a signature, opened. -/
import Derived.Test.YtiacajjpkncomaaGreatDoorRows
import Derived.Test.YtiacajjpkncomaaGreatDoorExJ1
import Derived.Test.YtiacajjpkncomaaGreatDoorExBR
import Derived.Deep.Slices
import Derived.Lib.LaidTab
import Derived.Stop.LaidErr
import Derived.ProofKit
import Derived.LaidMore
import Derived.OpenShut
import Derived.Stop.Joined
import Derived.ChangeSame
import Derived.JoinedOf
import Derived.JoinedAt
import Derived.RowKit3
import Derived.Carry
import Derived.Below
import Derived.FnData
import Derived.Test.YtiacajjpkncomaaGreatDoorExKd
namespace Go.Proofs.YtiacajjpkncomaaGreatDoor
open Go.ChangeShapes Go.WideShapes Go.ChangeAt Go.WideElems Go.RowKit Go.Deep
set_option maxRecDepth 100000
section
variable {H:Type} {enc:TypeId × Value→H} {P:Program}
theorem post_of_below {f:Func} {s:ChangeSpec} {apart fresh handsOn again:Bool} {W W':World} {args:Array Value} {v:Value} {ds gs:List (DataW H)} {before pa pv:List MemPlace}
  (hW:DataW.Whole enc P f.params.toList s.vars apart W args.toList ds gs before)
  (hres:∀ (b:Nat) (sp:Nat→Bool) (hd:Bool),DataW.TrodAll enc P W' b sp hd f.resultTypes.toList (v.resultList f.resultTypes.size) (s.fn H (ds++gs)).results [])
  (hargs:∀ sp:Nat→Bool,(∀ p∈before,sp p.block=true)→DataW.TrodAll enc P W' 0 sp true f.params.toList args.toList (s.fn H (ds++gs)).args pa)
  (hvars:∀ sp:Nat→Bool,(∀ p∈before,sp p.block=true)→DataW.TrodVars enc P W' sp s.vars (s.fn H (ds++gs)).vars pv)
  (hps:before=pa++pv) (hb:Below W.heap.size W W')
  (hok:∀ (j:Nat) (t:TypeId) (r:Value),f.resultTypes[j]?=some t→(v.resultList f.resultTypes.size)[j]?=some r→Value.okWide P W' .any 0 t r) :
  s.post enc P f apart fresh handsOn again W args v W':=by
 have hlt:∀ p∈before,p.block<W.heap.size:=fun p hp=>hW.lt p hp
 have hold:∀ p∈before,(fun b=>decide (b<W.heap.size)) p.block=true:=fun p hp=>by simpa using hlt p hp
 refine ⟨ds,gs,before,[],pa,pv,hW,hres _ _ _,hargs _ hold,hvars _ hold,World.keptBut_mono (fun p hp=>⟨hp,?_⟩) (hb.frame (·∈before)),fun _=>?_⟩
 · rw [hps,List.mem_append] at hp
   exact Or.inr hp
 · obtain ⟨_,_,_,_,_,hz,hn⟩:=hW
   refine ⟨hok,_,_,([]++pa)++pv,⟨[]++pa,pv,trodAll_append (hargs _ (fun _ _=>rfl)) (hres _ _ _),hvars _ (fun _ _=>rfl),rfl,?_,?_⟩,?_⟩
   · intro b off hp
     have hin:MemPlace.cell b off∈before:=by rw [hps];simpa using hp
     rw [hb.frozen (hlt _ hin)];exact hz b off hin
   · intro ha
     have:=hn ha;rw [hps] at this;simpa using this
   · intro p hp _
     rw [hps];simpa using hp
end
theorem ownK:ownKnob Tryz.prog.godebug=none:=by kernel_rfl
theorem laidOutK:laidOutB Tryz.prog=true:=by kernel_rfl
theorem gTab:Tryz.prog.globalNamed "math/bits.deBruijn64tab"=some 0:=by kernel_rfl
theorem tTab:(Tryz.prog.globals[0]?).map (·.type)=some 171:=by kernel_rfl
theorem cU8:Tryz.prog.cellsOf 5=1:=by kernel_rfl
abbrev laidL:List (String × DataW Unit):=[("math/bits.deBruijn32tab",Rows.laid_math_bits_deBruijn32tab),("math/bits.deBruijn64tab",Rows.laid_math_bits_deBruijn64tab),("internal/strconv.uint64pow10",Rows.laid_internal_strconv_uint64pow10)]
theorem door_met (os:Os) (args:Array Value):laidMetH Tryz.prog laidL ((World.doorLaid Tryz.prog 400 os).forCall (fun _ _=>0) ⟨#[],args,[]⟩).memory :=
 laidMetH_of_parts3 (fuel:=8) (laidMet_of_run' 8 (by kernel_rfl) (by kernel_rfl)) (by kernel_rfl) (by kernel_rfl)
def tabData:List (DataW Unit):=match (Rows.laid_math_bits_deBruijn64tab:DataW Unit) with|.agg l=>l|_=>[]
theorem tabData_eq:(Rows.laid_math_bits_deBruijn64tab:DataW Unit)=.agg tabData:=rfl
theorem tabData_at:∀ j,j<64→tabData[j]?=some (.lit (.int .u8 (Lib.deBruijn64tab.getD j 0:Nat))):=by
 have h:tabData=(List.range 64).map fun j=>(.lit (.int .u8 (Lib.deBruijn64tab.getD j 0:Nat)):DataW Unit):=by kernel_rfl
 intro j hj;rw [h];simp [hj]
theorem of_laid {W:World} (h:laidMetH Tryz.prog laidL W):Tab W:=by
 rw [MakeChecks.laidMetH_plain _ _ _ (by kernel_rfl)] at h;have h:=h.tail;obtain ⟨ps,⟨g0,t0,cs0,f0,p0,q0,hg0,ht0,hv0,hd0,_,_⟩,_,_⟩:=h;obtain rfl:=Option.some.inj (gTab.symm.trans hg0);obtain rfl:=Option.some.inj (tTab.symm.trans ht0);obtain ⟨xs,m1,rfl,hx1,hlen,hn3,hel⟩:=DataW.trod_array Tryz.underlying171 hd0;simp only [Prod.mk.injEq] at hx1;rw [tabData_eq] at hx1;have hx:=DataW.agg.inj hx1.1;intro j hj;have hc:=World.var?_cell hg0 hv0 j;have hj':=hel j hj;rw [cU8] at hj';obtain ⟨x,hxj⟩:∃ x,xs[j]?=some x:=⟨xs[j]'(by omega),by simp [hn3,hj]⟩;rw [hxj] at hj';obtain ⟨k,e1,e2,_⟩:=DataW.trod_int Tryz.underlying5 hj';have h1:tabData[j]?=some x.1:=by rw [hx,List.getElem?_map,hxj];rfl
 rw [tabData_at j hj,e2] at h1
 have hk:k=(Lib.deBruijn64tab.getD j 0:Nat):=by
  have:=Option.some.inj h1;injection this with this
  injection this with _ this
  exact this.symm
 rw [hc,← hk];have h2:(cs0.toList.drop (j*1)).take 1=[.int .u8 k]:=e1;rw [Nat.mul_one] at h2
 have h3:cs0.toList[j]?=some (.int .u8 k):=by
  have:=congrArg (fun l=>l[0]?) h2;simpa [List.getElem?_take,List.getElem?_drop] using this
 simpa using h3
theorem t10:(Tryz.prog.globals[4]?).map (·.type)=some 220:=by kernel_rfl
theorem of_laid10 {W:World} (h:laidMetH Tryz.prog laidL W):Tab10 W:=by
 rw [MakeChecks.laidMetH_plain _ _ _ (by kernel_rfl)] at h;have h:=h.tail.tail;have e:(Rows.laid_internal_strconv_uint64pow10:DataW Unit)=Lib.tabData .u64 Lib.pow10Tab:=by kernel_rfl
 rw [e] at h;exact Lib.tabIs_of_head globalNamed10 t10 Tryz.underlying220 Tryz.underlying57 (by kernel_rfl) (by kernel_rfl) h
theorem c1N:Tryz.prog.cellsOf 22=1:=by kernel_rfl
theorem c1L:Tryz.prog.cellsOf 31=1:=by kernel_rfl
theorem c1S:Tryz.prog.cellsOf 9=1:=by kernel_rfl
theorem c1I:Tryz.prog.cellsOf 3=1:=by kernel_rfl
theorem c3T:Tryz.prog.cellsOf 39=3:=by kernel_rfl
theorem open_nats {H:Type} {enc:TypeId × Value→H} {W:World} {base fuel:Nat} {sp:Nat→Bool} {held:Bool} {v:Value} {x:DataW H × List MemPlace}
  (hf:DataW.trod enc Tryz.prog W base sp held fuel 31 [v]=some x) :
  ∃ (A:Option Addr) (n c:Nat) (ls:List ByteArray),v=.slice A n c∧ls.length=n∧n≤maxLen∧SLs W W.heap.size A ls:=by
 rcases open_slice Tryz.underlying31 hf with ⟨h0,_⟩|⟨a,len,cap,m,n,D,Pl,hcs,hb,hl,hm,hmm,hxx,hi⟩
 · have:v=.slice none 0 0:=by simpa using h0
   exact ⟨none,0,0,[],this,rfl,Nat.zero_le _,SLs.nil_⟩
 · have hv':v=.slice (some a) len cap:=by simpa using hcs
   have hle:len≤m:=by rw [hmm];split<;>omega
   have hat:∀ i,i<len→∃ s:ByteArray,W.cell? (a.add i)=some (.string s):=fun i hi'=>by
    obtain ⟨cs',hc,ht⟩:=hi i (by omega);rw [c1N,Nat.mul_one] at hc;obtain ⟨s,e,_,_⟩:=DataW.trod_string Tryz.underlying22 ht;subst e;obtain ⟨_,_,hat⟩:=World.cells?_some hc;have:=hat 0 (by simp);refine ⟨s,?_⟩;have e2:(a.add i).add 0=a.add i:=by simp [Addr.add]
    rw [e2] at this;simpa using this
   have hex:∃ ls:List ByteArray,ls.length=len∧∀ i,i<len→W.cell? (a.add i)=some (.string (ls.getD i ByteArray.empty)):=by
    clear hv' hcs hi hm hl hmm hle hf hxx
    induction len with
    | zero=>exact ⟨[],rfl,fun i hi=>absurd hi (Nat.not_lt_zero _)⟩
    | succ k ih =>
      obtain ⟨ls,h1,h2⟩:=ih (fun i hi=>hat i (by omega));obtain ⟨s,hs⟩:=hat k (by omega);refine ⟨ls++[s],by simp [h1],fun i hi=>?_⟩;by_cases e:i=k
      · subst e
        rw [hs,List.getD_eq_getElem?_getD,List.getElem?_append_right (by omega),h1];simp
      · rw [h2 i (by omega),List.getD_eq_getElem?_getD,List.getD_eq_getElem?_getD,List.getElem?_append_left (by omega)]
   obtain ⟨ls,h1,h2⟩:=hex;refine ⟨some a,len,cap,ls,hv',h1,by omega,fun hne=>⟨a,rfl,?_,fun j hj=>h2 j (by omega)⟩⟩;have h0:0<len:=by rw [← h1];exact List.length_pos_iff.2 hne
   have hc0:=h2 0 h0;have e2:a.add 0=a:=by simp [Addr.add]
   rw [e2] at hc0;exact World.block_lt_of_cell? W _ hc0
theorem open_tape {H:Type} {enc:TypeId × Value→H} {W:World} {base b0:Nat} {sp:Nat→Bool} {held:Bool} {r:Reach} {v:Value} {d:DataW H} {ps:List MemPlace}
  (hok:Value.okWide Tryz.prog W r b0 39 v) (h:DataW.Trod enc Tryz.prog W base sp held 39 v d ps) :
  ∃ (A:Option Addr) (n c:Nat) (seed:ByteArray) (z:Int) (vals:List ByteArray),v=.agg #[.slice A n c,.string seed,.int .i64 z]∧vals.length=n∧n≤maxLen∧SLs W W.heap.size A vals:=by
 obtain ⟨cs,rfl,hsz⟩:=okWide_struct Tryz.underlying39 hok;rw [c3T] at hsz;obtain ⟨l⟩:=cs
 match l,hsz with
 | [c0,c1,c2],_ =>
 obtain ⟨fuel,hf⟩:=h;obtain ⟨xs,m,_,_,_,hlen,hfs⟩:=DataW.trod_struct Tryz.underlying39 hf
 match xs,hlen with
 | [y0,y1,y2],_ =>
 have f0:=hfs 0 _ rfl;have f1:=hfs 1 _ rfl;have f2:=hfs 2 _ rfl;simp [Value.cells,c1L,c1S,c1I] at f0 f1 f2;obtain ⟨A,n,c,vals,rfl,hn,hm,hs⟩:=open_nats f0;obtain ⟨seed,e1,_,_⟩:=DataW.trod_string Tryz.underlying9 f1;obtain ⟨z,e2,_,_⟩:=DataW.trod_int Tryz.underlying3 f2;simp at e1 e2;subst e1 e2;exact ⟨A,n,c,seed,z,vals,rfl,hn,hm,hs⟩
end Go.Proofs.YtiacajjpkncomaaGreatDoor
namespace Go.Proofs.YtiacajjpkncomaaGreatDoor
open Go.ChangeShapes Go.WideShapes Go.ChangeAt Go.WideElems Go.RowKit Go.Deep
set_option maxRecDepth 100000
set_option maxHeartbeats 4000000
theorem c2Gw:Tryz.prog.cellsOf 26=2:=by kernel_rfl
theorem c2Rw:Tryz.prog.cellsOf 24=2:=by kernel_rfl
theorem c4Pw:Tryz.prog.cellsOf 28=4:=by kernel_rfl
theorem c17Pw:Tryz.prog.cellsOf 30=17:=by kernel_rfl
theorem c8Kw:Tryz.prog.cellsOf 33=8:=by kernel_rfl
theorem c2Tw:Tryz.prog.cellsOf 35=2:=by kernel_rfl
theorem c27w:Tryz.prog.cellsOf 37=27:=by kernel_rfl
section
variable {H:Type} {enc:TypeId × Value→H} {W:World} {base b0 fuel:Nat} {sp:Nat→Bool} {held:Bool} {r:Reach} {v:Value} {d:DataW H} {ps:List MemPlace} {x:DataW H × List MemPlace}
theorem open_nat1 {c:Value} (hf:DataW.trod enc Tryz.prog W base sp held fuel 22 [c]=some x):∃ s:ByteArray,c=.string s:=by
 obtain ⟨s,e,_,_⟩:=DataW.trod_string Tryz.underlying22 hf;exact ⟨s,by simpa using e⟩
theorem open_ped4 {c0 c1 c2 c3:Value} (hf:DataW.trod enc Tryz.prog W base sp held fuel 28 [c0,c1,c2,c3]=some x):∃ s0 s1 s2 s3:ByteArray,c0=.string s0∧c1=.string s1∧c2=.string s2∧c3=.string s3:=by
 obtain ⟨ps1,k1,_,_,_,hl1,hf1⟩:=DataW.trod_struct Tryz.underlying28 hf
 match ps1,hl1 with
 | [u0,u1,u2],_ =>
 have a0:=hf1 0 _ rfl;have a1:=hf1 1 _ rfl;have a2:=hf1 2 _ rfl;simp [c2Gw,c1N] at a0 a1 a2;obtain ⟨z2,z3,k3,_,_,g2,g3⟩:=trod_struct2 Tryz.underlying26 a0;simp [c1N] at g2 g3;obtain ⟨s0,e0⟩:=open_nat1 g2;obtain ⟨s1,e1⟩:=open_nat1 g3;obtain ⟨s2,e2⟩:=open_nat1 a1;obtain ⟨s3,e3⟩:=open_nat1 a2;exact ⟨s0,s1,s2,s3,e0,e1,e2,e3⟩
theorem open_par17 {c0 c1 c2 c3 c4 c5 c6 c7 c8 c9 c10 c11 c12 c13 c14 c15 c16:Value} (hf:DataW.trod enc Tryz.prog W base sp held fuel 30 [c0,c1,c2,c3,c4,c5,c6,c7,c8,c9,c10,c11,c12,c13,c14,c15,c16]=some x) :
  ∃ s0 s1 s2 s3 s4 s5 s6 s7 s8 s9 s10 s11 s12 s13 s14 s15 s16:ByteArray,c0=.string s0∧c1=.string s1∧c2=.string s2∧c3=.string s3∧c4=.string s4∧c5=.string s5∧c6=.string s6∧c7=.string s7∧c8=.string s8∧c9=.string s9∧c10=.string s10∧c11=.string s11∧c12=.string s12∧c13=.string s13∧c14=.string s14∧c15=.string s15∧c16=.string s16:=by
 obtain ⟨xs,n,_,_,_,hlen,hfs⟩:=DataW.trod_struct Tryz.underlying30 hf
 match xs,hlen with
 | [y0,y1,y2,y3,y4,y5,y6,y7,y8,y9],_ =>
 have f0:=hfs 0 _ rfl;have f1:=hfs 1 _ rfl;have f2:=hfs 2 _ rfl;have f3:=hfs 3 _ rfl;have f4:=hfs 4 _ rfl;have f5:=hfs 5 _ rfl;have f6:=hfs 6 _ rfl;have f7:=hfs 7 _ rfl;have f8:=hfs 8 _ rfl;have f9:=hfs 9 _ rfl;simp [c2Rw,c4Pw,c1N] at f0 f1 f2 f3 f4 f5 f6 f7 f8 f9;obtain ⟨z0,z1,k0,_,_,g0,g1⟩:=trod_struct2 Tryz.underlying24 f0;simp [c1N] at g0 g1;obtain ⟨s0,e0⟩:=open_nat1 g0;obtain ⟨s1,e1⟩:=open_nat1 g1;obtain ⟨s2,s3,s4,s5,e2,e3,e4,e5⟩:=open_ped4 f1;obtain ⟨s6,s7,s8,s9,e6,e7,e8,e9⟩:=open_ped4 f2;obtain ⟨s10,e10⟩:=open_nat1 f3;obtain ⟨s11,e11⟩:=open_nat1 f4;obtain ⟨s12,e12⟩:=open_nat1 f5;obtain ⟨s13,e13⟩:=open_nat1 f6;obtain ⟨s14,e14⟩:=open_nat1 f7;obtain ⟨s15,e15⟩:=open_nat1 f8;obtain ⟨s16,e16⟩:=open_nat1 f9;exact ⟨s0,s1,s2,s3,s4,s5,s6,s7,s8,s9,s10,s11,s12,s13,s14,s15,s16,e0,e1,e2,e3,e4,e5,e6,e7,e8,e9,e10,e11,e12,e13,e14,e15,e16⟩
theorem open_key8 {c0 c1 c2 c3 c4 c5 c6 c7:Value} (hf:DataW.trod enc Tryz.prog W base sp held fuel 33 [c0,c1,c2,c3,c4,c5,c6,c7]=some x) :
  ∃ (nm m o z s u h:ByteArray) (A:Option Addr) (n c:Nat) (rs:List ByteArray),c0=.string nm∧c1=.string m∧c2=.string o∧c3=.string z∧c4=.string s∧c5=.slice A n c∧c6=.string u∧c7=.string h∧rs.length=n∧n≤maxLen∧SLs W W.heap.size A rs:=by
 obtain ⟨xs,n,_,_,_,hlen,hfs⟩:=DataW.trod_struct Tryz.underlying33 hf
 match xs,hlen with
 | [y0,y1,y2,y3,y4,y5,y6],_ =>
 have f0:=hfs 0 _ rfl;have f1:=hfs 1 _ rfl;have f2:=hfs 2 _ rfl;have f3:=hfs 3 _ rfl;have f4:=hfs 4 _ rfl;have f5:=hfs 5 _ rfl;have f6:=hfs 6 _ rfl;simp [c2Gw,c1S,c1L,c1N] at f0 f1 f2 f3 f4 f5 f6;obtain ⟨nm,e0,_,_⟩:=DataW.trod_string Tryz.underlying9 f0;simp at e0;obtain ⟨z2,z3,k3,_,_,g2,g3⟩:=trod_struct2 Tryz.underlying26 f1;simp [c1N] at g2 g3;obtain ⟨m,e1⟩:=open_nat1 g2;obtain ⟨o,e2⟩:=open_nat1 g3;obtain ⟨z,e3⟩:=open_nat1 f2;obtain ⟨s,e4⟩:=open_nat1 f3;obtain ⟨A,n',c',rs,e5,hn,hm,hs⟩:=open_nats f4;obtain ⟨u,e6⟩:=open_nat1 f5;obtain ⟨h,e7⟩:=open_nat1 f6;exact ⟨nm,m,o,z,s,u,h,A,n',c',rs,e0,e1,e2,e3,e4,e5,e6,e7,hn,hm,hs⟩
theorem open_setting (hok:Value.okWide Tryz.prog W r b0 37 v) (h:DataW.Trod enc Tryz.prog W base sp held 37 v d ps) :
  ∃ (ch sl mm mo mg mh wm wo wg wh se at_ ha el es bl ma nm m o z s u h P Q:ByteArray) (AR:Option Addr) (nR cR:Nat) (rs:List ByteArray),
   v=.agg #[.string ch,.string sl,.string mm,.string mo,.string mg,.string mh,.string wm,.string wo,.string wg,.string wh,.string se,.string at_,.string ha,.string el,.string es,.string bl,.string ma,.string nm,.string m,.string o,.string z,.string s,.slice AR nR cR,.string u,.string h,.string P,.string Q] ∧
   rs.length=nR∧nR≤maxLen∧SLs W W.heap.size AR rs:=by
 obtain ⟨cs,rfl,hsz⟩:=okWide_struct Tryz.underlying37 hok;rw [c27w] at hsz;obtain ⟨l⟩:=cs
 match l,hsz with
 | [c0,c1,c2,c3,c4,c5,c6,c7,c8,c9,c10,c11,c12,c13,c14,c15,c16,c17,c18,c19,c20,c21,c22,c23,c24,c25,c26],_ =>
 obtain ⟨fuel,hf⟩:=h;obtain ⟨xs,n,_,_,_,hlen,hfs⟩:=DataW.trod_struct Tryz.underlying37 hf
 match xs,hlen with
 | [y0,y1,y2],_ =>
 have f0:=hfs 0 _ rfl;have f1:=hfs 1 _ rfl;have f2:=hfs 2 _ rfl;simp [Value.cells,c17Pw,c8Kw,c2Tw] at f0 f1 f2;obtain ⟨s0,s1,s2,s3,s4,s5,s6,s7,s8,s9,s10,s11,s12,s13,s14,s15,s16,e0,e1,e2,e3,e4,e5,e6,e7,e8,e9,e10,e11,e12,e13,e14,e15,e16⟩:=open_par17 f0;obtain ⟨nm,m,o,z,s,u,h,A,n',c',rs,k0,k1,k2,k3,k4,k5,k6,k7,hn,hm,hs⟩:=open_key8 f1;obtain ⟨z2,z3,k8,_,_,g2,g3⟩:=trod_struct2 Tryz.underlying35 f2;simp [c1N] at g2 g3;obtain ⟨P,p0⟩:=open_nat1 g2;obtain ⟨Q,p1⟩:=open_nat1 g3;subst e0 e1 e2 e3 e4 e5 e6 e7 e8 e9 e10 e11 e12 e13 e14 e15 e16 k0 k1 k2 k3 k4 k5 k6 k7 p0 p1;exact ⟨s0,s1,s2,s3,s4,s5,s6,s7,s8,s9,s10,s11,s12,s13,s14,s15,s16,nm,m,o,z,s,u,h,P,Q,A,n',c',rs,rfl,hn,hm,hs⟩
end
end Go.Proofs.YtiacajjpkncomaaGreatDoor
