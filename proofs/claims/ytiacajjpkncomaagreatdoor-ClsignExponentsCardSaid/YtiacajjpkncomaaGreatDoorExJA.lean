/- Loads of a part of a row. The law file's words on small settings: short, list, FewKey, FewParams, few. The law file's few: a setting is small. The law file's nats: numbers as strings. -/
import Derived.Test.YtiacajjpkncomaaGreatDoorExJ9
import Derived.Test.YtiacajjpkncomaaGreatDoorExJ1
import Derived.Deep.MidRow
import Derived.Test.YtiacajjpkncomaaGreatDoorExKd
import Derived.Test.YtiacajjpkncomaaGreatDoorExJ5
import Derived.Test.YtiacajjpkncomaaGreatDoorExBW
namespace Go.Proofs.YtiacajjpkncomaaGreatDoor
open Go.RowKit
set_option maxRecDepth 100000
set_option linter.unusedVariables false
theorem run_loadVar_sub {P:Program} (w:World) (g k:Nat) (t ty:TypeId) (cs cs0:Array Value) (fr:Nat × Nat) (d:TypeDesc) (hg:w.heap[g]?=some (.cells cs0 t fr)) (hx:cs0.extract k (k+cs.size)=cs)
  (hu:P.underlying ty=some d) (hd:(match d with|.struct _|.array _ _=>true|_=>false)=true) (hi:(P.info? ty).map (·.size)=some cs.size) :
  (loadVar ty ⟨g,k,none⟩).run P w=.ok (.agg cs) w:=by
 have hl:(loadCells ⟨g,k,none⟩ cs.toList.length).run P w=.ok cs.toList.toArray w :=
  run_loadCells_list (P:=P) w ⟨g,k,none⟩ cs.toList (fun j v hv=>by
   have hadd:(⟨g,k,none⟩:Addr).add j=⟨g,k+j,none⟩:=by unfold Addr.add;split<;>simp_all
   rw [hadd,cell_of_row w g (k+j) cs0 t fr hg];have hv':cs[j]?=some v:=by simpa using hv
   rw [← hx,Array.getElem?_extract] at hv'
   split at hv'
   · exact hv'
   · cases hv')
 cases hq:P.info? ty with
 | none=>simp [hq] at hi
 | some i =>
   have hs:i.size=cs.size:=by simpa [hq] using hi
   have hagg:(isAgg ty).run P w=.ok true w:=by
    unfold isAgg;rw [Sem.run_bind,run_underlying hu w]
    cases d<;>simp_all
   simp only [Array.length_toList,Array.toArray_toList] at hl;simp [loadVar,Sem.run_bind,hagg,sizeOf,typeInfo,hq,hs,hl]
theorem wpList_look {P:Program} {ops:Array Oper} {rest:List Oper} {o:Oper} {a:Act} {w:World} {Q:Exit→Act→World→Prop} (h:wpList P ops Q (o::rest) a w):wpList P ops Q (o::rest) a w:=h
theorem wpList_load_sub {P:Program} {ops:Array Oper} {rest:List Oper} {o:Oper} {a:Act} {w:World} {Q:Exit→Act→World→Prop} (hgd:Region.wanted o (yielded ops a.tmps)=true) (ty:TypeId) (x:Operand) (ho:o.op=.load ty x)
  (g k:Nat) (hx:a.eval x=.pointer (some ⟨g,k,none⟩)) (t:TypeId) (cs cs0:Array Value) (fr:Nat × Nat) (d:TypeDesc) (hg:w.heap[g]?=some (.cells cs0 t fr)) (hs:cs0.extract k (k+cs.size)=cs)
  (hu:P.underlying ty=some d) (hd:(match d with|.struct _|.array _ _=>true|_=>false)=true) (hi:(P.info? ty).map (·.size)=some cs.size)
  (h:wpList P ops Q rest (a.put o.dst (.agg cs)) w):wpList P ops Q (o::rest) a w :=
 wpList_step fun K hK=>by
  rw [if_pos hgd];unfold Oper.wp execOp;simp only [ho,hx,Instr.loadAt,Instr.sureAddr,Sem.run_bind,Sem.run_pure,Result.andThen_ok,run_loadVar_sub w g k t ty cs cs0 fr d hg hs hu hd hi];exact hK _ _ h
theorem ext_par {v0 v1 v2 v3 v4 v5 v6 v7 v8 v9 v10 v11 v12 v13 v14 v15 v16 v17 v18 v19 v20 v21 v22 v23 v24 v25 v26:Value}:(#[v0,v1,v2,v3,v4,v5,v6,v7,v8,v9,v10,v11,v12,v13,v14,v15,v16,v17,v18,v19,v20,v21,v22,v23,v24,v25,v26]:Array Value).extract 0 (0+(#[v0,v1,v2,v3,v4,v5,v6,v7,v8,v9,v10,v11,v12,v13,v14,v15,v16]:Array Value).size)=#[v0,v1,v2,v3,v4,v5,v6,v7,v8,v9,v10,v11,v12,v13,v14,v15,v16]:=by rfl
theorem ext_key {v0 v1 v2 v3 v4 v5 v6 v7 v8 v9 v10 v11 v12 v13 v14 v15 v16 v17 v18 v19 v20 v21 v22 v23 v24 v25 v26:Value}:(#[v0,v1,v2,v3,v4,v5,v6,v7,v8,v9,v10,v11,v12,v13,v14,v15,v16,v17,v18,v19,v20,v21,v22,v23,v24,v25,v26]:Array Value).extract 17 (17+(#[v17,v18,v19,v20,v21,v22,v23,v24]:Array Value).size)=#[v17,v18,v19,v20,v21,v22,v23,v24]:=by rfl
def putL (cs:Array Value) (o:Nat):List Value→Array Value
 | []=>cs
 | v::r=>putL (cs.setIfInBounds o v) (o+1) r
structure Put1 (w w':World) (g:Nat) (cs':Array Value) (t:TypeId):Prop where
 blk:w'.heap[g]?=some (.cells cs' t (0,0))
 oth:∀ i,i≠g→w'.heap[i]?=w.heap[i]?
 size:w'.heap.size=w.heap.size
 bel:∀ B a,B≤g→Below B a w→Below B a w'
theorem put1_setCells (g:Nat) (t:TypeId):∀ (vs:List Value) (o:Nat) (w:World) (cs:Array Value),w.heap[g]?=some (.cells cs t (0,0))→Put1 w (w.setCells g o vs) g (putL cs o vs) t
 | [],o,w,cs,h=>⟨h,fun _ _=>rfl,rfl,fun _ _ _ h=>h⟩
 | v::r,o,w,cs,h=>by
   have h1:=heap_setCell_same w g o cs t v h;have ih:=put1_setCells g t r (o+1) (w.setCell ⟨g,o,none⟩ v) _ h1;refine ⟨ih.blk,fun i hi=>(ih.oth i hi).trans (heap_setCell_other w ⟨g,o,none⟩ i v hi),ih.size.trans ?_,fun B a hB hb=>ih.bel B a hB (hb.setCell hB v)⟩;rw [setCell_eq_setRow w g o cs t (0,0) v h];simp [World.setRow]
theorem Put1.row {w w':World} {g i:Nat} {cs' cs:Array Value} {t T:TypeId} (h:Put1 w w' g cs' t) (hi:i≠g) (hc:w.heap[i]?=some (.cells cs T (0,0))):w'.heap[i]?=some (.cells cs T (0,0)):=(h.oth i hi).trans hc
theorem there_row {w:World} {g k n:Nat} {cs:Array Value} {t:TypeId} (hg:w.heap[g]?=some (.cells cs t (0,0))) (hk:k+n≤cs.size):w.there g k n:=by
 intro j hj;refine ⟨?_,frozen_of_row w g _ cs t hg⟩;rw [cell_of_row w g _ cs t (0,0) hg,Array.getElem?_eq_getElem (by omega)];rfl
theorem wpList_store_sub {P:Program} {ops:Array Oper} {rest:List Oper} {o:Oper} {a:Act} {w:World} {Q:Exit→Act→World→Prop} (hgd:o.guard=none) (ty:TypeId) (x y:Operand) (ho:o.op=.store ty x y)
  (g k:Nat) (hx:a.eval x=.pointer (some ⟨g,k,none⟩)) (vs:List Value) (hy:a.eval y=.agg vs.toArray) (t:TypeId) (cs cs':Array Value) (hg:w.heap[g]?=some (.cells cs t (0,0)))
  (hs:putL cs k vs=cs') (hk:k+vs.length≤cs.size) (hi:(P.info? ty).map (·.size)=some vs.length) (h1:∀ v∈vs,v.oneCell'=true)
  (h:∀ w',Put1 w w' g cs' t→wpList P ops Q rest (a.put o.dst undef) w'):wpList P ops Q (o::rest) a w :=
 wpList_store_mid hgd ty x y ho g k vs.toArray hx hy (there_row hg (by simpa using hk)) (by simpa using hi) (all_oneCell_toArray h1) (h _ (by subst hs;exact put1_setCells g t vs k w cs hg))
theorem c27:(Tryz.prog.info? 37).map (·.size)=some 27:=by kernel_rfl
end Go.Proofs.YtiacajjpkncomaaGreatDoor
namespace Go.Proofs.YtiacajjpkncomaaGreatDoor
open Go.RowKit
set_option maxRecDepth 100000
set_option linter.unusedVariables false
set_option maxHeartbeats 8000000
def shS (k:Nat) (ls:List ByteArray):Bool:=ls.all fun s=>decide (s.size≤k)
theorem shS_no {k:Nat} {ls:List ByteArray} {j:Nat} (hj:j<ls.length) (h:¬ (ls.getD j ByteArray.empty).size≤k):shS k ls=false:=by
 unfold shS;rw [List.all_eq_false];refine ⟨ls.getD j ByteArray.empty,?_,by simpa using h⟩;rw [sgetD_lt hj];exact List.getElem_mem _
theorem shS_yes {k:Nat} {ls:List ByteArray} (h:∀ j,j<ls.length→(ls.getD j ByteArray.empty).size≤k):shS k ls=true:=by
 unfold shS;rw [List.all_eq_true];intro x hx;obtain ⟨j,hj,rfl⟩:=List.getElem_of_mem hx;have:=h j hj;rw [sgetD_lt hj] at this;exact decide_eq_true this
theorem law30_short (k:Nat) (ls:List ByteArray) (A:Option Addr) (n c b:Nat) (w:World) (hk:k≤1000) (hn:ls.length=n) (hm:n≤maxLen) (h:SLs w b A ls) :
  Calls Tryz.prog 12 #[.int .i64 k,.slice A n c] w fun e w'=>e=.returned (.bool (shS k ls))∧w=w':=by
 have HN:=Lib.hid hn;have HS:=Lib.hid h;unfold maxLen at hm;clear hn h
 go_enter Tryz.func12, Tryz.ntmps12
 go_wp2;go_loop [5] (fun v=>∃ j:Nat,j≤n∧v=.int .i64 j∧∀ t,t<j→(ls.getD t ByteArray.empty).size≤k) (fun v=>n-(intOf v).toNat)
 case atStart=>exact ⟨0,by omega,rfl,fun j h=>absurd h (by omega)⟩
 case round =>
  obtain ⟨j,hj,rfl,hall⟩:=hrel;have HA:=Lib.hid hall;clear hall;by_cases hlt:j<n
  · obtain ⟨ad,rfl,hc⟩:=HS.out.at_ (k:=j) (by rw [HN.out];exact hlt)
    obtain ⟨s,hs⟩:∃ s,ls.getD j ByteArray.empty=s:=⟨_,rfl⟩;rw [hs] at hc;by_cases hz:s.size≤k
    · have p0:¬ k<s.size:=by omega
      have HX:Hid ((ls.getD j ByteArray.empty).size≤k):=Lib.hid (by rw [hs];exact hz);have HLT:=Lib.hid hlt;clear hs hz;go_wp2;go_round
      case rel=>exact ⟨j+1,HLT.out,by go_num,fun t ht=>by
       rcases Nat.lt_or_ge t j with h1|h1
       · exact HA.out t h1
       · obtain rfl:t=j:=by omega
         exact HX.out⟩
      case measure=>have:=HLT.out;simp [intOf];omega
    · have p0:k<s.size:=by omega
      have HF:Hid (shS k ls=false):=Lib.hid (shS_no (j:=j) (by rw [HN.out];exact hlt) (by rw [hs];exact hz));clear hs hz;go_wp2;go_ret;exact ⟨by rw [HF.out];rfl,rfl⟩
  · obtain rfl:j=n:=by omega
    have HF:Hid (shS k ls=true):=Lib.hid (shS_yes (fun t ht=>HA.out t (by rw [HN.out] at ht;exact ht)));go_wp2;go_ret;exact ⟨by rw [HF.out];rfl,rfl⟩
def fewK (nm m o z s u h:ByteArray) (rs:List ByteArray):Bool:=shS 8 [m,o]&&(shS 9 [z,s,u,h]&&(decide (rs.length≤6)&&(shS 9 rs&&decide (nm.size≤60))))
theorem SLs.newAt (w:World) (t:Nat) (ls:List ByteArray) (k:Nat) (hk:w.heap.size=k):SLs (w.alloc (.cells (ls.map Value.string).toArray t)) (k+1) (some ⟨k,0,none⟩) ls:=by
 subst hk;exact SLs.new w t ls (w.heap.size+1) (by omega)
theorem law30_FewKey (nm m o z s u h:ByteArray) (A:Option Addr) (n c b:Nat) (rs:List ByteArray) (w:World) (hn:rs.length=n) (hm:n≤maxLen) (hs:SLs w b A rs) (hb:b≤w.heap.size) :
  Calls Tryz.prog 11 #[.agg #[.string nm,.string m,.string o,.string z,.string s,.slice A n c,.string u,.string h]] w fun e w'=>e=.returned (.bool (fewK nm m o z s u h rs))∧Below w.heap.size w w':=by
 have K1:Hid (∀ (wq:World) A1 b1,SLs wq b1 A1 [m,o]→Calls Tryz.prog 12 #[.int .i64 8,.slice A1 2 2] wq fun e w'=>e=.returned (.bool (shS 8 [m,o]))∧wq=w'):=Lib.hid (fun wq A1 b1 h1=>law30_short 8 [m,o] A1 2 2 b1 wq (by omega) rfl (by unfold maxLen;omega) h1);have K2:Hid (∀ (wq:World) A1 b1,SLs wq b1 A1 [z,s,u,h]→Calls Tryz.prog 12 #[.int .i64 9,.slice A1 4 4] wq fun e w'=>e=.returned (.bool (shS 9 [z,s,u,h]))∧wq=w'):=Lib.hid (fun wq A1 b1 h1=>law30_short 9 [z,s,u,h] A1 4 4 b1 wq (by omega) rfl (by unfold maxLen;omega) h1);have K3:Hid (∀ (wq:World),SLs wq b A rs→Calls Tryz.prog 12 #[.int .i64 9,.slice A n c] wq fun e w'=>e=.returned (.bool (shS 9 rs))∧wq=w'):=Lib.hid (fun wq h1=>law30_short 9 rs A n c b wq (by omega) hn hm h1);obtain ⟨X,hX⟩:∃ X:Obj,Obj.cells #[.string nm,.string m,.string o,.string z,.string s,.slice A n c,.string u,.string h] 33=X:=⟨_,rfl⟩;have HB0:=Lib.hid (show Below w.heap.size w (w.alloc X) from (Below.refl _ _).alloc (Nat.le_refl _) _);have HB1:=Lib.hid (HB0.out.alloc HB0.out.size (.cells #[.string m,.string o] 22));have HB2:=Lib.hid (HB1.out.alloc HB1.out.size (.cells #[.string z,.string s,.string u,.string h] 22));have e1:(w.alloc X).heap.size=w.heap.size+1:=by simp
 have S1:Hid (SLs ((w.alloc X).alloc (.cells #[.string m,.string o] 22)) _ (some ⟨w.heap.size+1,0,none⟩) [m,o]):=Lib.hid (SLs.newAt (w.alloc X) 22 [m,o] _ e1);have e2:((w.alloc X).alloc (.cells #[.string m,.string o] 22)).heap.size=w.heap.size+2:=by simp
 have S2:Hid (SLs (((w.alloc X).alloc (.cells #[.string m,.string o] 22)).alloc (.cells #[.string z,.string s,.string u,.string h] 22)) _ (some ⟨w.heap.size+2,0,none⟩) [z,s,u,h]):=Lib.hid (SLs.newAt _ 22 [z,s,u,h] _ e2);have S3:=Lib.hid (hs.next hb HB2.out);subst hX;have hr:fewK nm m o z s u h rs=(shS 8 [m,o]&&(shS 9 [z,s,u,h]&&(decide (n≤6)&&(shS 9 rs&&decide (nm.size≤60))))):=by unfold fewK;rw [hn]
 rw [hr];obtain ⟨b1,hb1⟩:∃ b1,shS 8 [m,o]=b1:=⟨_,rfl⟩;obtain ⟨b2,hb2⟩:∃ b2,shS 9 [z,s,u,h]=b2:=⟨_,rfl⟩;obtain ⟨b3,hb3⟩:∃ b3,shS 9 rs=b3:=⟨_,rfl⟩;rw [hb1] at K1;rw [hb2] at K2;rw [hb3] at K3;rw [hb1,hb2,hb3];unfold maxLen at hm;clear hr hb1 hb2 hb3 hn hs hb e1 e2
 cases b1
 · go_enter Tryz.func11, Tryz.ntmps11
   go_wp2_with (go_at_call 12;(with_reducible refine (K1.out _ _ _ S1.out).mono ?_);rintro e w' ⟨rfl,rfl⟩);go_ret;exact ⟨rfl,HB1.out⟩
 · cases b2
   · go_enter Tryz.func11, Tryz.ntmps11
     go_wp2_with (first|(go_at_call 12;(with_reducible refine (K1.out _ _ _ S1.out).mono ?_);rintro e w' ⟨rfl,rfl⟩)|(go_at_call 12;(with_reducible refine (K2.out _ _ _ S2.out).mono ?_);rintro e w' ⟨rfl,rfl⟩));go_ret;exact ⟨rfl,HB2.out⟩
   · by_cases h6:n≤6
     · have p6:decide ((n:Int)≤6)=true:=decide_eq_true (by omega)
       rw [decide_eq_true h6];clear h6
       cases b3
       · go_enter Tryz.func11, Tryz.ntmps11
         go_wp2_with (first|(go_at_call 12;(with_reducible refine (K1.out _ _ _ S1.out).mono ?_);rintro e w' ⟨rfl,rfl⟩)|(go_at_call 12;(with_reducible refine (K2.out _ _ _ S2.out).mono ?_);rintro e w' ⟨rfl,rfl⟩)|(go_at_call 12;(with_reducible refine (K3.out _ S3.out).mono ?_);rintro e w' ⟨rfl,rfl⟩));go_ret;exact ⟨rfl,HB2.out⟩
       · obtain ⟨q,hq⟩:∃ q,decide (nm.size≤60)=q:=⟨_,rfl⟩
         rw [hq];have pq:decide ((nm.size:Int)≤60)=q:=by rw [← hq];exact decide_eq_decide.mpr (by omega)
         clear hq
         go_enter Tryz.func11, Tryz.ntmps11
         go_wp2_with (first|(go_at_call 12;(with_reducible refine (K1.out _ _ _ S1.out).mono ?_);rintro e w' ⟨rfl,rfl⟩)|(go_at_call 12;(with_reducible refine (K2.out _ _ _ S2.out).mono ?_);rintro e w' ⟨rfl,rfl⟩)|(go_at_call 12;(with_reducible refine (K3.out _ S3.out).mono ?_);rintro e w' ⟨rfl,rfl⟩));go_ret;exact ⟨ret_bool (by simp),HB2.out⟩
     · have p6:decide ((n:Int)≤6)=false:=decide_eq_false (by omega)
       rw [decide_eq_false h6];clear h6
       go_enter Tryz.func11, Tryz.ntmps11
       go_wp2_with (first|(go_at_call 12;(with_reducible refine (K1.out _ _ _ S1.out).mono ?_);rintro e w' ⟨rfl,rfl⟩)|(go_at_call 12;(with_reducible refine (K2.out _ _ _ S2.out).mono ?_);rintro e w' ⟨rfl,rfl⟩));go_ret;exact ⟨rfl,HB2.out⟩
def fewP (ch sl mm mo mg mh wm wo wg wh se at_ ha el es bl ma:ByteArray):Bool:=shS 8 [mm,mo,mg,mh]&&(shS 8 [wm,wo,wg,wh]&&shS 8 [ch,sl,se,at_,ha,el,es,bl,ma])
theorem law30_FewParams (ch sl mm mo mg mh wm wo wg wh se at_ ha el es bl ma:ByteArray) (w:World) :
  Calls Tryz.prog 10 #[.agg #[.string ch,.string sl,.string mm,.string mo,.string mg,.string mh,.string wm,.string wo,.string wg,.string wh,.string se,.string at_,.string ha,.string el,.string es,.string bl,.string ma]] w fun e w'=>e=.returned (.bool (fewP ch sl mm mo mg mh wm wo wg wh se at_ ha el es bl ma))∧Below w.heap.size w w':=by
 have K1:Hid (∀ (wq:World) A1 b1,SLs wq b1 A1 [mm,mo,mg,mh]→Calls Tryz.prog 12 #[.int .i64 8,.slice A1 4 4] wq fun e w'=>e=.returned (.bool (shS 8 [mm,mo,mg,mh]))∧wq=w'):=Lib.hid (fun wq A1 b1 h1=>law30_short 8 [mm,mo,mg,mh] A1 4 4 b1 wq (by omega) rfl (by unfold maxLen;omega) h1);have K2:Hid (∀ (wq:World) A1 b1,SLs wq b1 A1 [wm,wo,wg,wh]→Calls Tryz.prog 12 #[.int .i64 8,.slice A1 4 4] wq fun e w'=>e=.returned (.bool (shS 8 [wm,wo,wg,wh]))∧wq=w'):=Lib.hid (fun wq A1 b1 h1=>law30_short 8 [wm,wo,wg,wh] A1 4 4 b1 wq (by omega) rfl (by unfold maxLen;omega) h1);have K3:Hid (∀ (wq:World) A1 b1,SLs wq b1 A1 [ch,sl,se,at_,ha,el,es,bl,ma]→Calls Tryz.prog 12 #[.int .i64 8,.slice A1 9 9] wq fun e w'=>e=.returned (.bool (shS 8 [ch,sl,se,at_,ha,el,es,bl,ma]))∧wq=w'):=Lib.hid (fun wq A1 b1 h1=>law30_short 8 [ch,sl,se,at_,ha,el,es,bl,ma] A1 9 9 b1 wq (by omega) rfl (by unfold maxLen;omega) h1);have hr:fewP ch sl mm mo mg mh wm wo wg wh se at_ ha el es bl ma=(shS 8 [mm,mo,mg,mh]&&(shS 8 [wm,wo,wg,wh]&&shS 8 [ch,sl,se,at_,ha,el,es,bl,ma])):=rfl;rw [hr];clear hr;obtain ⟨b1,hb1⟩:∃ b1,shS 8 [mm,mo,mg,mh]=b1:=⟨_,rfl⟩;obtain ⟨b2,hb2⟩:∃ b2,shS 8 [wm,wo,wg,wh]=b2:=⟨_,rfl⟩;obtain ⟨b3,hb3⟩:∃ b3,shS 8 [ch,sl,se,at_,ha,el,es,bl,ma]=b3:=⟨_,rfl⟩;rw [hb1] at K1;rw [hb2] at K2;rw [hb3] at K3;rw [hb1,hb2,hb3];clear hb1 hb2 hb3
 cases b1
 · go_enter Tryz.func10, Tryz.ntmps10
   go_wp2_with fail;refine wp_loop_rounds 3 ?_;rw [rounds_succ];go_wp2_with (go_at_call 12;refine (K1.out _ _ _ (SLs.newAt _ 22 [mm,mo,mg,mh] _ (by simp))).mono ?_;rintro e w' ⟨rfl,rfl⟩);go_ret;exact ⟨rfl,by ((repeat (refine Below.alloc ?_ (by first|exact Nat.le_refl _|(simp only [World.size_alloc];omega)) _));exact Below.refl _ _)⟩
 · cases b2
   · go_enter Tryz.func10, Tryz.ntmps10
     go_wp2_with fail;refine wp_loop_rounds 3 ?_;rw [rounds_succ];go_wp2_with (go_at_call 12;refine (K1.out _ _ _ (SLs.newAt _ 22 [mm,mo,mg,mh] _ (by simp))).mono ?_;rintro e w' ⟨rfl,rfl⟩);rw [rounds_succ];go_wp2_with (go_at_call 12;refine (K2.out _ _ _ (SLs.newAt _ 22 [wm,wo,wg,wh] _ (by simp))).mono ?_;rintro e w' ⟨rfl,rfl⟩);go_ret;exact ⟨rfl,by ((repeat (refine Below.alloc ?_ (by first|exact Nat.le_refl _|(simp only [World.size_alloc];omega)) _));exact Below.refl _ _)⟩
   · go_enter Tryz.func10, Tryz.ntmps10
     go_wp2_with fail;refine wp_loop_rounds 3 ?_;rw [rounds_succ];go_wp2_with (go_at_call 12;refine (K1.out _ _ _ (SLs.newAt _ 22 [mm,mo,mg,mh] _ (by simp))).mono ?_;rintro e w' ⟨rfl,rfl⟩);rw [rounds_succ];go_wp2_with (go_at_call 12;refine (K2.out _ _ _ (SLs.newAt _ 22 [wm,wo,wg,wh] _ (by simp))).mono ?_;rintro e w' ⟨rfl,rfl⟩);rw [rounds_succ];go_wp2_with (go_at_call 12;refine (K3.out _ _ _ (SLs.newAt _ 22 [ch,sl,se,at_,ha,el,es,bl,ma] _ (by simp))).mono ?_;rintro e w' ⟨rfl,rfl⟩);go_ret;exact ⟨ret_bool (by simp),by ((repeat (refine Below.alloc ?_ (by first|exact Nat.le_refl _|(simp only [World.size_alloc];omega)) _));exact Below.refl _ _)⟩
def setFew (ch sl mm mo mg mh wm wo wg wh se at_ ha el es bl ma nm m o z s u h P Q:ByteArray) (rs:List ByteArray):Bool:=fewP ch sl mm mo mg mh wm wo wg wh se at_ ha el es bl ma&&(fewK nm m o z s u h rs&&shS 8 [P,Q])
theorem law30_few (ch sl mm mo mg mh wm wo wg wh se at_ ha el es bl ma nm m o z s u h P Q:ByteArray) (A:Option Addr) (n c b:Nat) (rs:List ByteArray) (w:World) (hn:rs.length=n) (hm:n≤maxLen) (hs:SLs w b A rs) (hb:b≤w.heap.size) :
  Calls Tryz.prog 4 #[.agg #[.string ch,.string sl,.string mm,.string mo,.string mg,.string mh,.string wm,.string wo,.string wg,.string wh,.string se,.string at_,.string ha,.string el,.string es,.string bl,.string ma,.string nm,.string m,.string o,.string z,.string s,.slice A n c,.string u,.string h,.string P,.string Q]] w fun e w'=>e=.returned (.bool (setFew ch sl mm mo mg mh wm wo wg wh se at_ ha el es bl ma nm m o z s u h P Q rs))∧Below w.heap.size w w':=by
 have K1:=Lib.hid (law30_FewParams ch sl mm mo mg mh wm wo wg wh se at_ ha el es bl ma);have K2:=Lib.hid (fun (wq:World) h1 h2=>law30_FewKey nm m o z s u h A n c b rs wq hn hm h1 h2);have K3:Hid (∀ (wq:World) A1 b1,SLs wq b1 A1 [P,Q]→Calls Tryz.prog 12 #[.int .i64 8,.slice A1 2 2] wq fun e w'=>e=.returned (.bool (shS 8 [P,Q]))∧wq=w'):=Lib.hid (fun wq A1 b1 h1=>law30_short 8 [P,Q] A1 2 2 b1 wq (by omega) rfl (by unfold maxLen;omega) h1);have hr:setFew ch sl mm mo mg mh wm wo wg wh se at_ ha el es bl ma nm m o z s u h P Q rs=(fewP ch sl mm mo mg mh wm wo wg wh se at_ ha el es bl ma&&(fewK nm m o z s u h rs&&shS 8 [P,Q])):=rfl;rw [hr];clear hr;obtain ⟨b1,hb1⟩:∃ b1,fewP ch sl mm mo mg mh wm wo wg wh se at_ ha el es bl ma=b1:=⟨_,rfl⟩;obtain ⟨b2,hb2⟩:∃ b2,fewK nm m o z s u h rs=b2:=⟨_,rfl⟩;obtain ⟨b3,hb3⟩:∃ b3,shS 8 [P,Q]=b3:=⟨_,rfl⟩;rw [hb1] at K1;rw [hb2] at K2;rw [hb3] at K3;rw [hb1,hb2,hb3];clear hb1 hb2 hb3 hn;obtain ⟨W0,hW0⟩:∃ W0,W0=w.alloc (.cells #[.string ch,.string sl,.string mm,.string mo,.string mg,.string mh,.string wm,.string wo,.string wg,.string wh,.string se,.string at_,.string ha,.string el,.string es,.string bl,.string ma,.string nm,.string m,.string o,.string z,.string s,.slice A n c,.string u,.string h,.string P,.string Q] 37):=⟨_,rfl⟩;have hb0:Below w.heap.size w W0:=by rw [hW0];((repeat (refine Below.alloc ?_ (by first|exact Nat.le_refl _|(simp only [World.size_alloc];omega)) _));exact Below.refl _ _)
 have hg0:W0.heap[w.heap.size]?=some (.cells #[.string ch,.string sl,.string mm,.string mo,.string mg,.string mh,.string wm,.string wo,.string wg,.string wh,.string se,.string at_,.string ha,.string el,.string es,.string bl,.string ma,.string nm,.string m,.string o,.string z,.string s,.slice A n c,.string u,.string h,.string P,.string Q] 37 (0,0)):=by rw [hW0];exact heap_alloc_new w _
 have hz0:w.heap.size<W0.heap.size:=by rw [hW0,World.size_alloc];omega
 have HS:=Lib.hid hs;have HBB:=Lib.hid hb;clear hs hb;have HB0:=Lib.hid hb0;have HG0:=Lib.hid hg0;have HZ0:=Lib.hid hz0;rw [hW0] at HB0 HG0 HZ0;clear hb0 hg0 hz0 hW0 W0
 cases b1
 · go_enter Tryz.func4, Tryz.ntmps4
   go_wp2_with (first|(go_at_call 10;refine (K1.out _).mono ?_;rintro e w1 ⟨rfl,h1⟩;have HB1:=Lib.hid (HB0.out.trans (h1.mono HB0.out.size));have HG1:=Lib.hid ((h1.block w.heap.size HZ0.out).trans HG0.out);clear h1)|(with_reducible refine wpList_look ?_;refine wpList_load_sub rfl 30 _ rfl _ 0 rfl 37 #[.string ch,.string sl,.string mm,.string mo,.string mg,.string mh,.string wm,.string wo,.string wg,.string wh,.string se,.string at_,.string ha,.string el,.string es,.string bl,.string ma] _ (0,0) _ HG0.out ext_par Tryz.underlying30 rfl (info17'.trans rfl) ?_));go_ret;exact ⟨rfl,HB1.out⟩
 · cases b2
   · go_enter Tryz.func4, Tryz.ntmps4
     go_wp2_with (first|(go_at_call 10;refine (K1.out _).mono ?_;rintro e w1 ⟨rfl,h1⟩;have HB1:=Lib.hid (HB0.out.trans (h1.mono HB0.out.size));have HG1:=Lib.hid ((h1.block w.heap.size HZ0.out).trans HG0.out);clear h1)|(go_at_call 11;refine (K2.out _ (HS.out.next HBB.out HB1.out) (Nat.le_trans HBB.out HB1.out.size)).mono ?_;rintro e w2 ⟨rfl,h2⟩;have HB2:=Lib.hid (HB1.out.trans (h2.mono HB1.out.size));have HG2:=Lib.hid ((h2.block w.heap.size (Nat.lt_of_lt_of_le (Array.getElem?_eq_some_iff.1 HG1.out).1 (Nat.le_refl _))).trans HG1.out);have c25:w2.cell? ⟨w.heap.size,25,none⟩=some (.string P):=(cell_of_row w2 _ 25 _ _ _ HG2.out).trans rfl;have c26:w2.cell? ⟨w.heap.size,26,none⟩=some (.string Q):=(cell_of_row w2 _ 26 _ _ _ HG2.out).trans rfl;clear h2)|(with_reducible refine wpList_look ?_;refine wpList_load_sub rfl 30 _ rfl _ 0 rfl 37 #[.string ch,.string sl,.string mm,.string mo,.string mg,.string mh,.string wm,.string wo,.string wg,.string wh,.string se,.string at_,.string ha,.string el,.string es,.string bl,.string ma] _ (0,0) _ HG0.out ext_par Tryz.underlying30 rfl (info17'.trans rfl) ?_)|(with_reducible refine wpList_look ?_;refine wpList_load_sub rfl 33 _ rfl _ 17 rfl 37 #[.string nm,.string m,.string o,.string z,.string s,.slice A n c,.string u,.string h] _ (0,0) _ HG1.out ext_key Tryz.underlying33 rfl (info8'.trans rfl) ?_));go_ret;exact ⟨rfl,HB2.out⟩
   · go_enter Tryz.func4, Tryz.ntmps4
     go_wp2_with (first|(go_at_call 10;refine (K1.out _).mono ?_;rintro e w1 ⟨rfl,h1⟩;have HB1:=Lib.hid (HB0.out.trans (h1.mono HB0.out.size));have HG1:=Lib.hid ((h1.block w.heap.size HZ0.out).trans HG0.out);clear h1)|(go_at_call 11;refine (K2.out _ (HS.out.next HBB.out HB1.out) (Nat.le_trans HBB.out HB1.out.size)).mono ?_;rintro e w2 ⟨rfl,h2⟩;have HB2:=Lib.hid (HB1.out.trans (h2.mono HB1.out.size));have HG2:=Lib.hid ((h2.block w.heap.size (Nat.lt_of_lt_of_le (Array.getElem?_eq_some_iff.1 HG1.out).1 (Nat.le_refl _))).trans HG1.out);have c25:w2.cell? ⟨w.heap.size,25,none⟩=some (.string P):=(cell_of_row w2 _ 25 _ _ _ HG2.out).trans rfl;have c26:w2.cell? ⟨w.heap.size,26,none⟩=some (.string Q):=(cell_of_row w2 _ 26 _ _ _ HG2.out).trans rfl;clear h2)|(go_at_call 12;refine (K3.out _ _ _ (SLs.newAt _ 22 [P,Q] _ rfl)).mono ?_;rintro e w3 ⟨rfl,rfl⟩)|(with_reducible refine wpList_look ?_;refine wpList_load_sub rfl 30 _ rfl _ 0 rfl 37 #[.string ch,.string sl,.string mm,.string mo,.string mg,.string mh,.string wm,.string wo,.string wg,.string wh,.string se,.string at_,.string ha,.string el,.string es,.string bl,.string ma] _ (0,0) _ HG0.out ext_par Tryz.underlying30 rfl (info17'.trans rfl) ?_)|(with_reducible refine wpList_look ?_;refine wpList_load_sub rfl 33 _ rfl _ 17 rfl 37 #[.string nm,.string m,.string o,.string z,.string s,.slice A n c,.string u,.string h] _ (0,0) _ HG1.out ext_key Tryz.underlying33 rfl (info8'.trans rfl) ?_))
     go_ret;exact ⟨ret_bool (by simp),HB2.out.alloc HB2.out.size _⟩
theorem sls_one' (W:World) (T:TypeId) (x:ByteArray):SLs (W.alloc (.cells #[.string x] T)) (W.alloc (.cells #[.string x] T)).heap.size (some ⟨W.heap.size,0,none⟩) [x] :=
 SLs.new W T [x] _ (by rw [World.size_alloc];omega)
def URow (w:World) (g:Nat) (vs:List Nat):Prop:=∀ k,k<vs.length→w.cell? ⟨g,k,none⟩=some (.int .u64 ((vs.getD k 0:Nat):Int))
theorem URow.next {w w':World} {g B:Nat} {vs:List Nat} (h:URow w g vs) (hb:Below B w w') (hg:g<B):URow w' g vs:=by
 intro k hk;have:=h k hk;unfold World.cell? at this ⊢;rw [hb.block g hg];exact this
theorem nats_step {w0 w1 w2:World} {v:Value} {n:Nat} {ls:List ByteArray} (x:ByteArray) (h:OwnS w1 w0.heap.size v n ls) (hb1:Below w0.heap.size w0 w1) (hb2:Below w1.heap.size w1 w2) :
  OwnS (w2.alloc (.cells #[.string x] 22)) w0.heap.size v n ls∧Below w0.heap.size w0 (w2.alloc (.cells #[.string x] 22)):=by
 have hb3:Below w1.heap.size w1 (w2.alloc (.cells #[.string x] 22)):=hb2.alloc hb2.size _;exact ⟨h.kept (B:=0) hb3,hb1.trans (hb3.mono hb1.size)⟩
theorem law30_nats (vs:List Nat) (g n:Nat) (w:World) (hn:vs.length=n) (hm:n≤1000) (hv:∀ k,k<n→vs.getD k 0<18446744073709551616) (hU:URow w g vs) (hg:g<w.heap.size) :
  Calls Tryz.prog 15 #[.slice (some ⟨g,0,none⟩) n n] w fun e w'=>(∃ A c,e=.returned (.slice A n c)∧SLs w' w'.heap.size A (vs.map B))∧Below w.heap.size w w':=by
 have HN:=Lib.hid hn;have HV:=Lib.hid hv;have HU:=Lib.hid hU;have HG:=Lib.hid hg;have KO:=Lib.hid (fun (k:Nat) (hk:k<n) (wq:World)=>natural_Of (vs.getD k 0) wq (hv k hk));clear hn hv hU hg
 go_enter Tryz.func15, Tryz.ntmps15
 go_wp2;go_loopw [3,4] (fun u v wr=>∃ i:Nat,v=.int .i64 i∧i≤n∧OwnS wr w.heap.size u i ((vs.take i).map B)∧Below w.heap.size w wr) (fun _ v _=>n-(intOf v).toNat)
 case atStart=>exact ⟨0,rfl,Nat.zero_le _,OwnS.nil_ _ _,Below.refl _ _⟩
 case round =>
  obtain ⟨i,rfl,hi,hown,hbel⟩:=hrel;obtain ⟨Au,cu,rfl,hsl⟩:=hown.form hbel.size;by_cases hlt:i<n
  · have hc:=(HU.out.next hbel HG.out) i (by rw [HN.out];exact hlt)
    have KI:=Lib.hid (KO.out i hlt)
    have ht:(vs.take (i+1)).map B=(vs.take i).map B++[B (vs.getD i 0)]:=by
     rw [List.take_add_one,List.map_append,List.getD_eq_getElem?_getD,List.getElem?_eq_getElem (by rw [HN.out];exact hlt)];rfl
    obtain ⟨x,hx⟩:∃ x,x=vs.getD i 0:=⟨_,rfl⟩;rw [← hx] at hc KI ht;have HO:=Lib.hid hown;have HB:=Lib.hid hbel;have HT:=Lib.hid ht;have HLT:=Lib.hid hlt;clear hsl hown hbel ht hx KO
    go_wp2_with (first
     | (go_at_call 17;(with_reducible refine (KI.out _).mono ?_);rintro e w2 ⟨rfl,hb2⟩;have hcs:=nats_step (B x) HO.out HB.out hb2;have HO2:=Lib.hid hcs.1;have HB2:=Lib.hid hcs.2;clear hcs hb2)
     | (at_builtin;refine wpList_append_S rfl (.tmp 11) (.tmp 17) rfl w.heap.size _ i _ rfl HO2.out _ 1 1 [B x] rfl (sls_one' _ _ _) rfl (by omega) HB2.out.size ?_;intro v5 w5 h1' h2' h3';rw [← HT.out] at h1';have HO5:=Lib.hid h1';have HB5:=Lib.hid (HB2.out.trans (below_grown h2' HB2.out.size (fun g hg=>(HO2.out.blockOf g hg).1)));clear h1' h2' h3'))
    go_roundw
    case rel=>exact ⟨i+1,by go_num,HLT.out,HO5.out,HB5.out⟩
    case measure=>have:=HLT.out;simp [intOf];omega
  · obtain rfl:i=n:=by omega
    have hs2:SLs wr wr.heap.size Au (vs.map B):=by rw [List.take_of_length_le (by rw [HN.out];exact Nat.le_refl _)] at hsl;exact hsl
    have HS:=Lib.hid hs2;have HB:=Lib.hid hbel;clear hsl hs2 hown hbel KO;go_wp2;go_ret;exact ⟨⟨Au,cu,rfl,HS.out⟩,HB.out⟩
end Go.Proofs.YtiacajjpkncomaaGreatDoor
