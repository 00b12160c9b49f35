/- The walk of issuerkey.Check: the error of a key, over a contract of params.Check given as a hypothesis. -/
import Derived.Test.YtiacajjpkncomaaGreatDoorExJ8
import Derived.Test.YtiacajjpkncomaaGreatDoorExKb
import Derived.Test.YtiacajjpkncomaaGreatDoorExJ1
namespace Go.Proofs.YtiacajjpkncomaaGreatDoor
open Go.RowKit Go.Shelf
set_option maxRecDepth 100000
set_option linter.unusedVariables false
set_option maxHeartbeats 8000000
attribute [local go_sem] Oper.semAt_some
theorem wpListIn_load_row {P:Program} {F:Fence} {n':Nat} {ops:Array Oper} {rest:List Oper} {o:Oper} {a:Act} {w:World} {Q:Exit→Act→World→Prop} (hgd:o.guard=none) (ty:TypeId) (x:Operand) (ho:o.op=.load ty x)
  (g:Nat) (hx:a.eval x=.pointer (some ⟨g,0,none⟩)) (t:TypeId) (cs:Array Value) (fr:Nat × Nat) (d:TypeDesc) (hg:w.heap[g]?=some (.cells cs t fr))
  (hu:P.underlying ty=some d) (hd:(match d with|.struct _|.array _ _=>true|_=>false)=true) (hi:(P.info? ty).map (·.size)=some cs.size)
  (h:wpListIn F n' P ops Q rest (a.put o.dst (.agg cs)) w):wpListIn F n' P ops Q (o::rest) a w:=by
 refine wpListIn_plain hgd fun K hK=>?_
 unfold Oper.wpIn;refine ⟨?_,?_⟩
 · simp [Oper.about,ho]
 · rw [Oper.semAt_plain F _ _ (by rw [ho];intro c hc';cases hc')]
   unfold execOp;simp only [ho,hx,Instr.loadAt,Instr.sureAddr,Sem.run_bind,Sem.run_pure,Result.andThen_ok,run_loadVar_row w g t ty cs fr d hg hu hd hi];exact hK _ _ h
theorem info17':(Tryz.prog.info? 30).map (·.size)=some 17:=by kernel_rfl
theorem info8':(Tryz.prog.info? 33).map (·.size)=some 8:=by kernel_rfl
structure CkK (w:World) (cs:Array Value) (nm m o z s u h:ByteArray) (A:Option Addr) (n c:Nat) (rs:List ByteArray) (W:World):Prop where
 par:W.heap[w.heap.size]?=some (.cells cs 30 (0,0))
 key:W.heap[w.heap.size+1]?=some (.cells #[.string nm,.string m,.string o,.string z,.string s,.slice A n c,.string u,.string h] 33 (0,0))
 res:W.heap[w.heap.size+1+1]?=some (.cells #[.int .i64 0] 43 (0,0))
 row:SLs W w.heap.size A rs
 bel:Below w.heap.size w W
theorem CkK.next {w:World} {cs:Array Value} {nm m o z s u h:ByteArray} {A:Option Addr} {n c:Nat} {rs:List ByteArray} {W W':World} (k:CkK w cs nm m o z s u h A n c rs W) (hb:Below W.heap.size W W'):CkK w cs nm m o z s u h A n c rs W':=by
 have l2:=(Array.getElem?_eq_some_iff.1 k.res).1;exact ⟨(hb.block _ (by omega)).trans k.par,(hb.block _ (by omega)).trans k.key,(hb.block _ l2).trans k.res,k.row.below (hb.mono k.bel.size),k.bel.trans (hb.mono k.bel.size)⟩
theorem CkK.lt {w:World} {cs:Array Value} {nm m o z s u h:ByteArray} {A:Option Addr} {n c:Nat} {rs:List ByteArray} {W:World} (k:CkK w cs nm m o z s u h A n c rs W):w.heap.size+1+1<W.heap.size:=(Array.getElem?_eq_some_iff.1 k.res).1
theorem CkK.cells {w:World} {cs:Array Value} {nm m o z s u h:ByteArray} {A:Option Addr} {n c:Nat} {rs:List ByteArray} {W:World} (k:CkK w cs nm m o z s u h A n c rs W) :
  W.cell? ⟨w.heap.size+1,0,none⟩=some (.string nm)∧W.cell? ⟨w.heap.size+1,1,none⟩=some (.string m)∧W.cell? ⟨w.heap.size+1,2,none⟩=some (.string o)∧W.cell? ⟨w.heap.size+1,5,none⟩=some (.slice A n c) ∧
  W.cell? ⟨w.heap.size+1+1,0,none⟩=some (.int .i64 0)∧W.frozen? ⟨w.heap.size+1+1,0,none⟩=false:=by
 refine ⟨?_,?_,?_,?_,?_,?_⟩<;>simp [World.cell?,World.frozen?,k.key,k.res]
theorem CkK.start (w:World) (cs:Array Value) (nm m o z s u h:ByteArray) (A:Option Addr) (n c:Nat) (rs:List ByteArray) (hs:SLs w w.heap.size A rs) :
  CkK w cs nm m o z s u h A n c rs (((w.alloc (.cells cs 30)).alloc (.cells #[.string nm,.string m,.string o,.string z,.string s,.slice A n c,.string u,.string h] 33)).alloc (.cells #[.int .i64 0] 43)):=by
 have hb:Below w.heap.size w (((w.alloc (.cells cs 30)).alloc (.cells #[.string nm,.string m,.string o,.string z,.string s,.slice A n c,.string u,.string h] 33)).alloc (.cells #[.int .i64 0] 43)):=(((Below.refl _ _).alloc (Nat.le_refl _) _).alloc (by simp) _).alloc (by simp;omega) _;have h0:=heap_alloc_new w (.cells cs 30);have h1:=heap_alloc_new (w.alloc (.cells cs 30)) (.cells #[.string nm,.string m,.string o,.string z,.string s,.slice A n c,.string u,.string h] 33);have h2:=heap_alloc_new ((w.alloc (.cells cs 30)).alloc (.cells #[.string nm,.string m,.string o,.string z,.string s,.slice A n c,.string u,.string h] 33)) (.cells #[.int .i64 0] 43);rw [World.size_alloc] at h1;rw [World.size_alloc,World.size_alloc] at h2;exact ⟨(heap_alloc_old _ _ (by simp;omega)).trans ((heap_alloc_old _ _ (by simp)).trans h0),(heap_alloc_old _ _ (by simp)).trans h1,h2,hs.below hb,hb⟩
theorem keyE_par {P:Int} {nm m o z s u h:ByteArray} {rs:List ByteArray} (h0:P≠0):keyE P nm m o z s u h rs=P:=by unfold keyE;rw [if_neg h0]
theorem keyE_form {nm m o z s u h:ByteArray} {rs:List ByteArray} (h0:(m::o::s::z::u::h::rs).all valid=false):keyE 0 nm m o z s u h rs=3:=by
 unfold keyE;rw [if_pos rfl,h0,if_neg (by decide)]
theorem all_basL {p:ByteArray→Bool} {z s u h:ByteArray} {rs:List ByteArray} (hp:∀ x∈basL z s u h rs,p x.2=true):(s::z::u::h::rs).all p=true:=by
 rw [List.all_eq_true];intro x hx;simp only [List.mem_cons] at hx
 rcases hx with rfl|rfl|rfl|rfl|hx
 · exact hp (2,x) (by simp [basL])
 · exact hp (0,x) (by simp [basL])
 · exact hp (1,x) (by simp [basL])
 · exact hp (1,x) (by simp [basL])
 · exact hp (0,x) (by simp only [basL,List.mem_cons,List.mem_map];exact .inr (.inr (.inr (.inr ⟨x,hx,rfl⟩))))
theorem some_basL {p:ByteArray→Bool} {z s u h:ByteArray} {rs:List ByteArray} {x:Int × ByteArray} (hx:x∈basL z s u h rs) (hp:p x.2=false):(s::z::u::h::rs).all p=false:=by
 rw [List.all_eq_false];refine ⟨x.2,?_,by rw [hp];decide⟩;simp only [basL,List.mem_cons,List.mem_map] at hx
 rcases hx with rfl|rfl|rfl|rfl|⟨y,hy,rfl⟩<;>simp
 exact .inr (.inr (.inr (.inr hy)))
theorem keyE_form2 {nm m o z s u h:ByteArray} {rs:List ByteArray} {x:Int × ByteArray} (hx:x∈basL z s u h rs) (hv:valid x.2=false):keyE 0 nm m o z s u h rs=3 :=
 keyE_form (by simp only [List.all_cons];have:=some_basL hx hv;simp only [List.all_cons] at this;rw [this];simp)
theorem keyE_ok {nm m o z s u h:ByteArray} {rs:List ByteArray} (h0:(m::o::s::z::u::h::rs).all valid=true) :
  keyE 0 nm m o z s u h rs=if nmS nm=true then (if o.toList.isEmpty=true∧groupE m o=0 then (if 2≤rs.length∧rs.length≤18 then
   (if (!(s.toList==(B 1).toList)&&(s::z::u::h::rs).all (hasG m o))=true then 0 else 13) else 6) else 13) else 1:=by
 unfold keyE;rw [if_pos rfl,if_pos h0]
def okB (m o:ByteArray) (x:Int × ByteArray):Bool:=hasG m o x.2&&!(decide (x.1=2)&&x.2.toList==(B 1).toList)
theorem okB_all {m o z s u h:ByteArray} {rs:List ByteArray} (hp:∀ x∈basL z s u h rs,okB m o x=true):(!(s.toList==(B 1).toList)&&(s::z::u::h::rs).all (hasG m o))=true:=by
 have h1:=hp (2,s) (by simp [basL]);have h2:=all_basL (p:=hasG m o) (fun x hx=>by have:=hp x hx;unfold okB at this;exact (Bool.and_eq_true_iff.1 this).1);unfold okB at h1;rw [h2];simp only [decide_true,Bool.true_and,Bool.and_eq_true] at h1;rw [h1.2];rfl
theorem okB_some {m o z s u h:ByteArray} {rs:List ByteArray} {x:Int × ByteArray} (hx:x∈basL z s u h rs) (hp:okB m o x=false):(!(s.toList==(B 1).toList)&&(s::z::u::h::rs).all (hasG m o))=false:=by
 unfold okB at hp
 cases hg:hasG m o x.2
 · rw [some_basL hx hg];simp
 · rw [hg] at hp
   simp only [Bool.true_and,Bool.not_eq_false',Bool.and_eq_true,decide_eq_true_eq] at hp;simp only [basL,List.mem_cons,List.mem_map] at hx
   rcases hx with rfl|rfl|rfl|rfl|⟨y,hy,rfl⟩
   · rw [hp.2];rfl
   · exact absurd hp.1 (by simp)
   · exact absurd hp.1 (by simp)
   · exact absurd hp.1 (by simp)
   · exact absurd hp.1 (by simp)
theorem ck_end0 {F:Fence} {n:Nat} {tmps:Array Value} {R:Ending→World→Prop} {W:World} {x:Int} {b:Nat} (hp:tmps.getD 4 undef=.pointer (some ⟨b,0,none⟩)) (hc:W.cell? ⟨b,0,none⟩=some (.int .i64 x)) (hR:R (.returned (.int .i64 x)) W) :
  LeavesInM F n Tryz.prog Tryz.f33 tmps R [] .returning W:=by
 have hp':tmps[4]?.getD undef=.pointer (some ⟨b,0,none⟩):=by simpa using hp
 exact ⟨.int .i64 x,by simp [results,Tryz.f33,go_sem,hp',hc],hR⟩
theorem ck_end1 {F:Fence} {n:Nat} {tmps:Array Value} {R:Ending→World→Prop} {W:World} {x:Int} {b D:Nat} (hp:tmps.getD 4 undef=.pointer (some ⟨b,0,none⟩)) (hc:W.cell? ⟨b,0,none⟩=some (.int .i64 x)) (hD:b≠D)
  (hK:W.heap[D]?=some (.deferred (some []))) (hR:R (.returned (.int .i64 x)) (W.putObj D (.deferred none))) :
  LeavesInM F n Tryz.prog Tryz.f33 tmps R [{ target:=.collected D,args:=#[] }] .returning W :=
 ⟨by simp,.inl ⟨_,_,rfl,run_takeDeferred hK,ck_end0 hp ((put_cell hD).trans hc) hR⟩⟩
theorem ck_end2 {F:Fence} {n:Nat} {tmps:Array Value} {R:Ending→World→Prop} {W:World} {x:Int} {b D D2:Nat} (hp:tmps.getD 4 undef=.pointer (some ⟨b,0,none⟩)) (hc:W.cell? ⟨b,0,none⟩=some (.int .i64 x)) (hD:b≠D) (hD2:b≠D2) (hne:D≠D2)
  (hK:W.heap[D]?=some (.deferred (some []))) (hK2:W.heap[D2]?=some (.deferred (some []))) (hR:R (.returned (.int .i64 x)) ((W.putObj D2 (.deferred none)).putObj D (.deferred none))) :
  LeavesInM F n Tryz.prog Tryz.f33 tmps R [{ target:=.collected D2,args:=#[] },{ target:=.collected D,args:=#[] }] .returning W :=
 ⟨by simp,.inl ⟨_,_,rfl,run_takeDeferred hK2,ck_end1 hp ((put_cell hD2).trans hc) hD ((World.putObj_heap_other hne).trans hK) hR⟩⟩
theorem CkK.ky {w:World} {cs:Array Value} {nm m o z s u h:ByteArray} {A:Option Addr} {n c:Nat} {rs:List ByteArray} {W:World} (k:CkK w cs nm m o z s u h A n c rs W) :
  KyAt (W.heap.size+1) W.heap.size z s u h A n c rs (W.alloc (.cells #[.string nm,.string m,.string o,.string z,.string s,.slice A n c,.string u,.string h] 33)) :=
 ⟨by simp [go_sem],by simp [go_sem],by simp [go_sem],by simp [go_sem],by simp [go_sem],((k.row.more k.bel.size).to ((Below.refl _ _).alloc (Nat.le_refl _) _)).more (by simp),by omega⟩
def CkI (p:Int × ByteArray→Bool) (L:World) (pre:List (Int × ByteArray)) (W:World):Prop:=(∀ x∈pre,p x=true)∧Below L.heap.size L W
def CkX (p:Int × ByteArray→Bool) (w:World) (b:Nat) (v:Int) (ds:List Nat) (cc:Code) (pre:List (Int × ByteArray)) (W:World):Prop :=
 ((cc=.ret∧(∃ x∈pre,p x=false)∧W.cell? ⟨b,0,none⟩=some (.int .i64 v))∧Below w.heap.size w W)∧∀ D∈ds,W.heap[D]?=some (.deferred (some []))
theorem ckI_own (p:Int × ByteArray→Bool) (L:World):OwnFrom L.heap.size (CkI p L) :=
 OwnFrom.and (ownFrom_pure _ (fun pre:List (Int × ByteArray)=>∀ x∈pre,p x=true)) (ownFrom_below (Nat.le_refl _) (Nat.le_refl _))
theorem ckX_own (p:Int × ByteArray→Bool) (w L:World) (b:Nat) (v:Int) (ds:List Nat) (hw:w.heap.size≤L.heap.size) (hd:∀ D∈ds,D<L.heap.size) (cc:Code):OwnFrom L.heap.size (CkX p w b v ds cc) :=
 fun s W W' row hs hg hr=>⟨⟨⟨hs.1.1.1,hs.1.1.2.1,cell_kept hs.1.1.2.2 hg (fun r e=>(hr r e).2)⟩,ownFrom_below (β:=Unit) (Nat.le_refl _) hw () W W' row hs.1.2 hg hr⟩,
  fun D hD=>(hg.block D (Array.getElem?_eq_some_iff.1 (hs.2 D hD)).1 (fun e=>by have:=(hr D e.symm).1;have:=hd D hD;omega)).trans (hs.2 D hD)⟩
theorem iss_Check (P:Int) (ch sl mm mo mg mh wm wo wg wh se at_ ha el es bl ma nm m o z s u h:ByteArray) (A:Option Addr) (n c:Nat) (rs:List ByteArray) (w:World) (sm:m.size≤8) (snm:nm.size≤100000) (hn:rs.length=n) (hm:n≤1000) (hs:SLs w w.heap.size A rs)
  (hP:∀ wq,Below w.heap.size w wq→Calls Tryz.prog 19 #[.agg #[.string ch,.string sl,.string mm,.string mo,.string mg,.string mh,.string wm,.string wo,.string wg,.string wh,.string se,.string at_,.string ha,.string el,.string es,.string bl,.string ma]] wq fun e w'=>e=.returned (.int .i64 P)∧Below wq.heap.size wq w') :
  Calls Tryz.prog 33 #[.agg #[.string ch,.string sl,.string mm,.string mo,.string mg,.string mh,.string wm,.string wo,.string wg,.string wh,.string se,.string at_,.string ha,.string el,.string es,.string bl,.string ma],
   .agg #[.string nm,.string m,.string o,.string z,.string s,.slice A n c,.string u,.string h]] w fun e w'=>e=.returned (.int .i64 (keyE P nm m o z s u h rs))∧Below w.heap.size w w':=by
 have HC0:=Lib.hid (CkK.start w #[.string ch,.string sl,.string mm,.string mo,.string mg,.string mh,.string wm,.string wo,.string wg,.string wh,.string se,.string at_,.string ha,.string el,.string es,.string bl,.string ma] nm m o z s u h A n c rs hs);obtain ⟨W0,hW0⟩:∃ W0,((w.alloc (.cells #[.string ch,.string sl,.string mm,.string mo,.string mg,.string mh,.string wm,.string wo,.string wg,.string wh,.string se,.string at_,.string ha,.string el,.string es,.string bl,.string ma] 30)).alloc (.cells #[.string nm,.string m,.string o,.string z,.string s,.slice A n c,.string u,.string h] 33)).alloc (.cells #[.int .i64 0] 43)=W0:=⟨_,rfl⟩;rw [hW0] at HC0;have HKP:=Lib.hid hP;have HN:=Lib.hid hn;have HM:=Lib.hid hm;have HSM:=Lib.hid sm;have HNM:=Lib.hid snm;have KV:=Lib.hid (fun x w=>natural_Valid x w);clear hs hP hn hm snm;refine (callsIn_wide (n:=5)).1 ?_;refine callsIn_of_wp_marks Tryz.func33 rfl trivial ?_ rfl;simp only [Tryz.ntmps33,List.size_toArray,List.length_cons,List.length_nil,Nat.reduceAdd,Nat.reduceSub,Array.replicate_succ,Array.replicate_zero,List.push_toArray,List.append_toArray,List.nil_append,List.cons_append];by_cases h0:P=0
 · subst h0
   have HC1s:True:=trivial
   cases hv:valid m&&valid o
   · have HE:Hid (keyE 0 nm m o z s u h rs=3):=Lib.hid (keyE_form (by simp only [List.all_cons];rw [← Bool.and_assoc,hv];rfl))
     cases hvm:valid m
     · have KM:=Lib.hid (fun w=>natural_Valid m w)
       rw [hvm] at KM;clear hv hvm
       gi_wp2_with (first
        | (refine wpListIn_load_row rfl 30 _ rfl _ rfl 30 _ (0,0) _ HC0.out.par Tryz.underlying30 rfl (info17'.trans rfl) ?_)
        | (refine ⟨trivial,?_⟩;gi_at_call 19;(with_reducible refine (callsIn_wide.2 (HKP.out _ HC0.out.bel)).mono ?_);rintro e w1 ⟨rfl,hb1⟩
           have HC1:=Lib.hid (HC0.out.next hb1);obtain ⟨k0,k1,k2,k5,r0,f0⟩:=HC1.out.cells
           clear hb1)
        | (refine ⟨trivial,?_⟩;gi_at_call 46;(with_reducible refine (callsIn_wide.2 (KM.out _)).mono ?_);rintro e w2 ⟨rfl,rfl⟩))
       refine ⟨trivial,?_⟩
       gi_wp2_with fail
       exact ck_end0 rfl (World.cell?_setCell_same _ _ _ r0) ⟨by rw [HE.out],HC1.out.bel.setCell (p:=⟨w.heap.size+1+1,0,none⟩) (by show w.heap.size≤w.heap.size+1+1;omega) _⟩
     · have hvo:valid o=false:=by rw [hvm] at hv;simpa using hv
       have KM:=Lib.hid (fun w=>natural_Valid m w);rw [hvm] at KM;have KO:=Lib.hid (fun w=>natural_Valid o w);rw [hvo] at KO;clear hv hvm hvo
       gi_wp2_with (first
        | (refine wpListIn_load_row rfl 30 _ rfl _ rfl 30 _ (0,0) _ HC0.out.par Tryz.underlying30 rfl (info17'.trans rfl) ?_)
        | (refine ⟨trivial,?_⟩;gi_at_call 19;(with_reducible refine (callsIn_wide.2 (HKP.out _ HC0.out.bel)).mono ?_);rintro e w1 ⟨rfl,hb1⟩
           have HC1:=Lib.hid (HC0.out.next hb1);obtain ⟨k0,k1,k2,k5,r0,f0⟩:=HC1.out.cells
           clear hb1)
        | (refine ⟨trivial,?_⟩;gi_at_call 46;(with_reducible refine (callsIn_wide.2 (KM.out _)).mono ?_);rintro e w2 ⟨rfl,rfl⟩)
        | (refine ⟨trivial,?_⟩;gi_at_call 46;(with_reducible refine (callsIn_wide.2 (KO.out _)).mono ?_);rintro e w2 ⟨rfl,rfl⟩))
       exact ck_end0 rfl (World.cell?_setCell_same _ _ _ r0) ⟨by rw [HE.out],HC1.out.bel.setCell (p:=⟨w.heap.size+1+1,0,none⟩) (by show w.heap.size≤w.heap.size+1+1;omega) _⟩
   · have hvm:valid m=true:=(Bool.and_eq_true_iff.1 hv).1
     have hvo:valid o=true:=(Bool.and_eq_true_iff.1 hv).2;have KM:=Lib.hid (fun w=>natural_Valid m w);rw [hvm] at KM;have KO:=Lib.hid (fun w=>natural_Valid o w);rw [hvo] at KO;have HVM:=Lib.hid hvm;have HVO:=Lib.hid hvo;clear hv hvm hvo
     gi_wp2_with (first
      | (refine wpListIn_load_row rfl 30 _ rfl _ rfl 30 _ (0,0) _ HC0.out.par Tryz.underlying30 rfl (info17'.trans rfl) ?_)
      | (refine ⟨trivial,?_⟩;gi_at_call 19;(with_reducible refine (callsIn_wide.2 (HKP.out _ HC0.out.bel)).mono ?_);rintro e w1 ⟨rfl,hb1⟩
         have HC1:=Lib.hid (HC0.out.next hb1);obtain ⟨k0,k1,k2,k5,r0,f0⟩:=HC1.out.cells
         clear hb1)
      | (refine ⟨trivial,?_⟩;gi_at_call 46;(with_reducible refine (callsIn_wide.2 (KM.out _)).mono ?_);rintro e w2 ⟨rfl,rfl⟩)
      | (refine ⟨trivial,?_⟩;gi_at_call 46;(with_reducible refine (callsIn_wide.2 (KO.out _)).mono ?_);rintro e w2 ⟨rfl,rfl⟩)
      | (refine wpListIn_load_row rfl 33 _ rfl _ rfl 33 _ (0,0) _ HC1.out.key Tryz.underlying33 rfl (info8'.trans rfl) ?_)
      | (refine ⟨trivial,?_⟩;gi_at_call 79;(with_reducible refine (callsIn_wide.2 (iss_bases _ _ _ _ _ _ _ _ _)).mono ?_);rintro e w2 ⟨rfl,rfl⟩))
     have HKy:=Lib.hid HC1.out.ky;have HCL:=Lib.hid (HC1.out.next ((Below.refl _ _).alloc (Nat.le_refl _) (.cells #[.string nm,.string m,.string o,.string z,.string s,.slice A n c,.string u,.string h] 33)));have HSZ:Hid ((w1.alloc (.cells #[.string nm,.string m,.string o,.string z,.string s,.slice A n c,.string u,.string h] 33)).heap.size=w1.heap.size+1):=Lib.hid (by simp);obtain ⟨L,hL⟩:∃ L,w1.alloc (.cells #[.string nm,.string m,.string o,.string z,.string s,.slice A n c,.string u,.string h] 33)=L:=⟨_,rfl⟩;obtain ⟨Bk,hBk⟩:∃ Bk,w1.heap.size=Bk:=⟨_,rfl⟩;rw [hL] at HKy HCL HSZ ⊢;rw [hBk] at HKy HSZ ⊢;clear hL hBk k0 k1 k2 k5 r0 f0;have hsz:L.heap.size=Bk+1:=HSZ.out;have HST:=Lib.hid (bases_stops 4 (by omega) (Bk+1) Bk z s u h A n c rs HN.out HM.out L HKy.out (by omega));clear hsz;have hlw:w.heap.size+1+1<L.heap.size:=HCL.out.lt;have HLW:=Lib.hid hlw;clear hlw
     apply wpIn_rangeFunc_ownF (encs:=encB) (N:=4+n) (Kp:=Below (Bk+1)) (w0:=L) rfl (by omega) (gf:=135) (lb:=#[.pointer (some ⟨Bk,0,none⟩)]) rfl trivial (enters_of Tryz.func135 (by kernel_rfl) rfl)
      HST.out belowK_t (belowK_b (by rw [HSZ.out];exact Nat.le_refl _)) (Below.refl _ _) (fun _=>rfl)
      (CkI (fun x=>valid x.2) L) (CkX (fun x=>valid x.2) w (w.heap.size+1+1) 3 []) (ckI_own _ L) (ckX_own _ w L _ _ [] HCL.out.bel.size (fun D hD=>by cases hD)) ⟨fun x hx=>(by cases hx),Below.refl _ _⟩
     case hassign =>
      intro l x W K hK;unfold encB
      gi_wp2
      exact hK
     case hbody =>
      rintro l pre ⟨kd,x⟩ W ⟨hpx,hbL⟩ _;have HPX:=Lib.hid hpx;have HBL:=Lib.hid hbL;have KX:=Lib.hid (fun w=>natural_Valid x w);have hcR:=(HCL.out.next hbL).cells;obtain ⟨k0,k1,k2,k5,r0,f0⟩:=hcR;clear hpx hbL
      cases hv:valid x
      · rw [hv] at KX
        have HV:=Lib.hid hv;clear hv
        gi_wp2_with (refine ⟨trivial,?_⟩;gi_at_call 46;(with_reducible refine (CallsIn.inRound l (callsIn_wide.2 (KX.out _))).mono ?_);rintro e w2 ⟨rfl,rfl⟩)
        exact ⟨KeepsOthers.setCell _ _ _,⟨⟨rfl,⟨(kd,x),by simp,HV.out⟩,World.cell?_setCell_same _ _ _ r0⟩,((HCL.out.next HBL.out).bel.setCell (p:=⟨w.heap.size+1+1,0,none⟩) (by show w.heap.size≤w.heap.size+1+1;omega) _)⟩,fun D hD=>(by cases hD)⟩
      · rw [hv] at KX
        have HV:=Lib.hid hv;clear hv
        gi_wp2_with (refine ⟨trivial,?_⟩;gi_at_call 46;(with_reducible refine (CallsIn.inRound l (callsIn_wide.2 (KX.out _))).mono ?_);rintro e w2 ⟨rfl,rfl⟩)
        exact ⟨KeepsOthers.refl _,Below.refl _ _,fun y hy=>(List.mem_append.1 hy).elim (HPX.out y) (fun e=>by simp at e;subst e;exact HV.out),HBL.out⟩
     case hdone =>
      rintro D ys W hD rfl ⟨hall,hbL⟩ hK
      have hva:(m::o::s::z::u::h::rs).all valid=true:=by
       have:=all_basL hall;rw [List.all_cons,List.all_cons,HVM.out,HVO.out,this];rfl
      have HE:=Lib.hid (keyE_ok (nm:=nm) hva);have HC2:=Lib.hid (HCL.out.next hbL);obtain ⟨k0,k1,k2,k5,r0,f0⟩:=HC2.out.cells;have HK1:=Lib.hid hK;have HD:=Lib.hid (show w.heap.size+1+1<D by have:=HLW.out;omega);have HDW:Hid (D<W.heap.size):=Lib.hid (Array.getElem?_eq_some_iff.1 hK).1;clear hva hall hbL hK hD;have KNm:=Lib.hid (fun w=>iss_isName nm w HNM.out)
      cases hnm:nmS nm
      · rw [hnm] at KNm
        have HE2:Hid (keyE 0 nm m o z s u h rs=1):=Lib.hid (by rw [HE.out,if_neg (by rw [hnm];decide)]);clear hnm
        gi_wp2_with (refine ⟨trivial,?_⟩;gi_at_call 80;(with_reducible refine (callsIn_wide.2 (KNm.out _)).mono ?_);rintro e w2 ⟨rfl,rfl⟩)
        exact ck_end1 rfl (World.cell?_setCell_same _ _ _ r0) (by have:=HD.out;omega) ((KeepsOthers.setCell _ _ _).same _ _ HK1.out rfl)
         ⟨by rw [HE2.out],put_below (HC2.out.bel.setCell (p:=⟨w.heap.size+1+1,0,none⟩) (by show w.heap.size≤w.heap.size+1+1;omega) _) (by have:=HD.out;omega) ((KeepsOthers.setCell _ _ _).same _ _ HK1.out rfl) (Nat.le_refl _)⟩
      · rw [hnm] at KNm
        have HE2:=Lib.hid (HE.out.trans (if_pos hnm));clear hnm;have KG:=Lib.hid (fun w=>power_Check m o w HSM.out)
        cases ho:o.toList.isEmpty
        · have HE3:Hid (keyE 0 nm m o z s u h rs=13):=Lib.hid (by rw [HE2.out,if_neg (fun hh=>by rw [ho] at hh;exact absurd hh.1 (by decide))])
          gi_wp2_with (first
           | (refine ⟨trivial,?_⟩;gi_at_call 80;(with_reducible refine (callsIn_wide.2 (KNm.out _)).mono ?_);rintro e w2 ⟨rfl,rfl⟩))
          refine ⟨trivial,?_⟩
          gi_wp2_with fail
          exact ck_end1 rfl (World.cell?_setCell_same _ _ _ r0) (by have:=HD.out;omega) ((KeepsOthers.setCell _ _ _).same _ _ HK1.out rfl)
           ⟨by rw [HE3.out],put_below (HC2.out.bel.setCell (p:=⟨w.heap.size+1+1,0,none⟩) (by show w.heap.size≤w.heap.size+1+1;omega) _) (by have:=HD.out;omega) ((KeepsOthers.setCell _ _ _).same _ _ HK1.out rfl) (Nat.le_refl _)⟩
        · obtain ⟨G,hG⟩:∃ G,groupE m o=G:=⟨_,rfl⟩
          rw [hG] at KG;by_cases hg:G=0
          · subst hg
            have HE3:=Lib.hid (HE2.out.trans (if_pos ⟨ho,hG⟩));have HG:=Lib.hid hG;clear hG;have hn:=HN.out;by_cases h2:n<2
            · have HE4:Hid (keyE 0 nm m o z s u h rs=6):=Lib.hid (by rw [HE3.out,if_neg (by omega)])
              have p1:decide ((n:Int)<2)=true:=decide_eq_true (by omega);clear hn h2
              gi_wp2_with (first
               | (refine ⟨trivial,?_⟩;gi_at_call 80;(with_reducible refine (callsIn_wide.2 (KNm.out _)).mono ?_);rintro e w2 ⟨rfl,rfl⟩)
               | (refine ⟨trivial,?_⟩;gi_at_call 81;(with_reducible refine (callsIn_wide.2 (KG.out _)).mono ?_);rintro e w3 ⟨rfl,hb3⟩
                  have HC3:=Lib.hid (HC2.out.next hb3);have HK3:=Lib.hid ((hb3.block _ HDW.out).trans HK1.out);have HDW3:Hid (D<w3.heap.size):=Lib.hid (Nat.lt_of_lt_of_le HDW.out hb3.size);obtain ⟨k0,k1,k2,k5,r0,f0⟩:=HC3.out.cells
                  clear hb3))
              exact ck_end1 rfl (World.cell?_setCell_same _ _ _ r0) (by have:=HD.out;omega) ((KeepsOthers.setCell _ _ _).same _ _ HK3.out rfl)
               ⟨by rw [HE4.out],put_below (HC3.out.bel.setCell (p:=⟨w.heap.size+1+1,0,none⟩) (by show w.heap.size≤w.heap.size+1+1;omega) _) (by have:=HD.out;omega) ((KeepsOthers.setCell _ _ _).same _ _ HK3.out rfl) (Nat.le_refl _)⟩
            by_cases h18:18<n
            · have HE4:Hid (keyE 0 nm m o z s u h rs=6):=Lib.hid (by rw [HE3.out,if_neg (by omega)])
              have p1:decide ((n:Int)<2)=false:=decide_eq_false (by omega);have p2:decide ((18:Int)<(n:Int))=true:=decide_eq_true (by omega);clear hn h2 h18
              gi_wp2_with (first
               | (refine ⟨trivial,?_⟩;gi_at_call 80;(with_reducible refine (callsIn_wide.2 (KNm.out _)).mono ?_);rintro e w2 ⟨rfl,rfl⟩)
               | (refine ⟨trivial,?_⟩;gi_at_call 81;(with_reducible refine (callsIn_wide.2 (KG.out _)).mono ?_);rintro e w3 ⟨rfl,hb3⟩
                  have HC3:=Lib.hid (HC2.out.next hb3);have HK3:=Lib.hid ((hb3.block _ HDW.out).trans HK1.out);have HDW3:Hid (D<w3.heap.size):=Lib.hid (Nat.lt_of_lt_of_le HDW.out hb3.size);obtain ⟨k0,k1,k2,k5,r0,f0⟩:=HC3.out.cells
                  clear hb3))
              exact ck_end1 rfl (World.cell?_setCell_same _ _ _ r0) (by have:=HD.out;omega) ((KeepsOthers.setCell _ _ _).same _ _ HK3.out rfl)
               ⟨by rw [HE4.out],put_below (HC3.out.bel.setCell (p:=⟨w.heap.size+1+1,0,none⟩) (by show w.heap.size≤w.heap.size+1+1;omega) _) (by have:=HD.out;omega) ((KeepsOthers.setCell _ _ _).same _ _ HK3.out rfl) (Nat.le_refl _)⟩
            have HE4:=Lib.hid (HE3.out.trans (if_pos (by omega)));have p1:decide ((n:Int)<2)=false:=decide_eq_false (by omega);have p2:decide ((18:Int)<(n:Int))=false:=decide_eq_false (by omega);clear hn h2 h18
            gi_wp2_with (first
              | (refine ⟨trivial,?_⟩;gi_at_call 80;(with_reducible refine (callsIn_wide.2 (KNm.out _)).mono ?_);rintro e w2 ⟨rfl,rfl⟩)
              | (refine ⟨trivial,?_⟩;gi_at_call 81;(with_reducible refine (callsIn_wide.2 (KG.out _)).mono ?_);rintro e w3 ⟨rfl,hb3⟩
                 have HC3:=Lib.hid (HC2.out.next hb3);have HK3:=Lib.hid ((hb3.block _ HDW.out).trans HK1.out);have HDW3:Hid (D<w3.heap.size):=Lib.hid (Nat.lt_of_lt_of_le HDW.out hb3.size);obtain ⟨k0,k1,k2,k5,r0,f0⟩:=HC3.out.cells
                 clear hb3)
              | (refine wpListIn_load_row rfl 33 _ rfl _ rfl 33 _ (0,0) _ HC3.out.key Tryz.underlying33 rfl (info8'.trans rfl) ?_)
              | (refine ⟨trivial,?_⟩;gi_at_call 79;(with_reducible refine (callsIn_wide.2 (iss_bases _ _ _ _ _ _ _ _ _)).mono ?_);rintro e w4 ⟨rfl,rfl⟩))
            have HKy3:=Lib.hid HC3.out.ky;have HCL3:=Lib.hid (HC3.out.next ((Below.refl _ _).alloc (Nat.le_refl _) (.cells #[.string nm,.string m,.string o,.string z,.string s,.slice A n c,.string u,.string h] 33)));have HKL3:=Lib.hid ((((Below.refl w3.heap.size w3).alloc (Nat.le_refl _) (.cells #[.string nm,.string m,.string o,.string z,.string s,.slice A n c,.string u,.string h] 33)).block _ HDW3.out).trans HK3.out);have HSZ3:Hid ((w3.alloc (.cells #[.string nm,.string m,.string o,.string z,.string s,.slice A n c,.string u,.string h] 33)).heap.size=w3.heap.size+1):=Lib.hid (by simp);obtain ⟨L3,hL3⟩:∃ L3,w3.alloc (.cells #[.string nm,.string m,.string o,.string z,.string s,.slice A n c,.string u,.string h] 33)=L3:=⟨_,rfl⟩;obtain ⟨B3,hB3⟩:∃ B3,w3.heap.size=B3:=⟨_,rfl⟩;rw [hL3] at HKy3 HCL3 HSZ3 HKL3 ⊢;rw [hB3] at HKy3 HSZ3 HDW3 ⊢;clear hL3 hB3 k0 k1 k2 k5 r0 f0;have hsz:L3.heap.size=B3+1:=HSZ3.out;have HST3:=Lib.hid (bases_stops 4 (by omega) (B3+1) B3 z s u h A n c rs HN.out HM.out L3 HKy3.out (by omega));clear hsz;have HLW3:=Lib.hid HCL3.out.lt;have HD3:Hid (∀ E∈[D],E<L3.heap.size):=Lib.hid (fun E hE=>by simp at hE;subst hE;have:=HDW3.out;have:=HSZ3.out;omega);have KH:=Lib.hid (fun x w=>power_Has m o x w HSM.out);have KO1:=Lib.hid (fun w=>natural_Of' 1 1 w rfl (by decide))
            apply wpIn_rangeFunc_ownF (encs:=encB) (N:=4+n) (Kp:=Below (B3+1)) (w0:=L3) rfl (by omega) (gf:=135) (lb:=#[.pointer (some ⟨B3,0,none⟩)]) rfl trivial (enters_of Tryz.func135 (by kernel_rfl) rfl)
             HST3.out belowK_t (belowK_b (by rw [HSZ3.out];exact Nat.le_refl _)) (Below.refl _ _) (fun _=>rfl)
             (CkI (okB m o) L3) (CkX (okB m o) w (w.heap.size+1+1) 13 [D]) (ckI_own _ L3) (ckX_own _ w L3 _ _ [D] HCL3.out.bel.size HD3.out) ⟨fun x hx=>(by cases hx),Below.refl _ _⟩
            case hassign =>
             intro l x W K hK;unfold encB
             gi_wp2
             exact hK
            case hbody =>
             rintro l pre ⟨kd,x⟩ W ⟨hpx,hbL⟩ _;have HPX:=Lib.hid hpx;have HBL:=Lib.hid hbL;obtain ⟨k0,k1,k2,k5,r0,f0⟩:=(HCL3.out.next hbL).cells;have HCB:=Lib.hid (HCL3.out.next hbL);have HKB:=Lib.hid ((hbL.block _ (HD3.out D (by simp))).trans HKL3.out);have KHx:=KH.out x;rw [HG.out] at KHx;have HDWL:=Lib.hid (Nat.lt_of_lt_of_le (HD3.out D (by simp)) hbL.size);have hBL:B3+1≤W.heap.size:=by have:=hbL.size;have:=HSZ3.out;omega
             have HBL3:=Lib.hid hBL;clear hpx hbL hBL
             cases hh:hasG m o x
             · rw [hh] at KHx
               have HV:Hid (okB m o (kd,x)=false):=Lib.hid (by unfold okB;rw [hh];rfl);have KHX:=Lib.hid KHx;clear hh KHx
               gi_wp2_with (first
                | (refine ⟨trivial,?_⟩;gi_at_call 44;(with_reducible refine (CallsIn.inRound l (callsIn_wide.2 (KHX.out _))).mono ?_);rintro e w5 ⟨rfl,hb5⟩
                   have HB5:=Lib.hid hb5;obtain ⟨k0,k1,k2,k5,r0,f0⟩:=(HCB.out.next hb5).cells
                   clear hb5))
               any_goals (exfalso;rename_i hq _;cases hq;done)
               refine ⟨trivial,?_⟩
               gi_wp2_with fail
               have hKB5:=(HB5.out.block _ HDWL.out).trans HKB.out
               exact ⟨(keeps_below' HB5.out).trans (KeepsOthers.setCell _ _ _),⟨⟨rfl,⟨(kd,x),by simp,HV.out⟩,World.cell?_setCell_same _ _ _ r0⟩,((HCB.out.next HB5.out).bel.setCell (p:=⟨w.heap.size+1+1,0,none⟩) (by show w.heap.size≤w.heap.size+1+1;omega) _)⟩,
                fun E hE=>by simp at hE;subst hE;exact (KeepsOthers.setCell _ _ _).same _ _ hKB5 rfl⟩
             · rw [hh] at KHx
               have KHX:=Lib.hid KHx;clear KHx;by_cases h2k:kd=2
               · subst h2k
                 cases h1:x.toList==(B 1).toList
                 · have HV:Hid (okB m o (2,x)=true):=Lib.hid (by unfold okB;rw [hh,h1];rfl)
                   clear hh
                   gi_wp2_with (first
                    | (refine ⟨trivial,?_⟩;gi_at_call 44;(with_reducible refine (CallsIn.inRound l (callsIn_wide.2 (KHX.out _))).mono ?_);rintro e w5 ⟨rfl,hb5⟩
                       have HB5:=Lib.hid hb5
                       clear hb5)
                    | (refine ⟨trivial,?_⟩;gi_at_call 17;(with_reducible refine (CallsIn.inRound l (callsIn_wide.2 (KO1.out _))).mono ?_);rintro e w6 ⟨rfl,hb6⟩
                       have HB6:=Lib.hid (HB5.out.trans (hb6.mono HB5.out.size))
                       clear hb6))
                   exact ⟨keeps_below' HB6.out,HB6.out.mono HBL3.out,fun y hy=>(List.mem_append.1 hy).elim (HPX.out y) (fun e=>by simp at e;subst e;exact HV.out),HBL.out.trans (HB6.out.mono HBL.out.size)⟩
                 · have HV:Hid (okB m o (2,x)=false):=Lib.hid (by unfold okB;rw [hh,h1];rfl)
                   clear hh
                   gi_wp2_with (first
                    | (refine ⟨trivial,?_⟩;gi_at_call 44;(with_reducible refine (CallsIn.inRound l (callsIn_wide.2 (KHX.out _))).mono ?_);rintro e w5 ⟨rfl,hb5⟩
                       have HB5:=Lib.hid hb5
                       clear hb5)
                    | (refine ⟨trivial,?_⟩;gi_at_call 17;(with_reducible refine (CallsIn.inRound l (callsIn_wide.2 (KO1.out _))).mono ?_);rintro e w6 ⟨rfl,hb6⟩
                       have HB6:=Lib.hid (HB5.out.trans (hb6.mono HB5.out.size));obtain ⟨k0,k1,k2,k5,r0,f0⟩:=(HCB.out.next HB6.out).cells
                       clear hb6))
                   have hKB5:=(HB6.out.block _ HDWL.out).trans HKB.out
                   exact ⟨(keeps_below' HB6.out).trans (KeepsOthers.setCell _ _ _),⟨⟨rfl,⟨(2,x),by simp,HV.out⟩,World.cell?_setCell_same _ _ _ r0⟩,((HCB.out.next HB6.out).bel.setCell (p:=⟨w.heap.size+1+1,0,none⟩) (by show w.heap.size≤w.heap.size+1+1;omega) _)⟩,
                    fun E hE=>by simp at hE;subst hE;exact (KeepsOthers.setCell _ _ _).same _ _ hKB5 rfl⟩
               · have HV:Hid (okB m o (kd,x)=true):=Lib.hid (by unfold okB;rw [hh,decide_eq_false h2k];rfl)
                 have p3:(kd==2)=false:=by simpa using h2k
                 clear hh h2k
                 gi_wp2_with (first
                  | (refine ⟨trivial,?_⟩;gi_at_call 44;(with_reducible refine (CallsIn.inRound l (callsIn_wide.2 (KHX.out _))).mono ?_);rintro e w5 ⟨rfl,hb5⟩
                     have HB5:=Lib.hid hb5
                     clear hb5))
                 refine ⟨trivial,?_⟩
                 gi_wp2_with fail
                 exact ⟨keeps_below' HB5.out,HB5.out.mono HBL3.out,fun y hy=>(List.mem_append.1 hy).elim (HPX.out y) (fun e=>by simp at e;subst e;exact HV.out),HBL.out.trans (HB5.out.mono HBL.out.size)⟩
            case hdone =>
             rintro D2 ys W hD2 rfl ⟨hall,hbL⟩ hK2;have HE5:=Lib.hid (HE4.out.trans (if_pos (okB_all hall)));have HC5:=Lib.hid (HCL3.out.next hbL);obtain ⟨k0,k1,k2,k5,r0,f0⟩:=HC5.out.cells;have HKB:=Lib.hid ((hbL.block _ (HD3.out D (by simp))).trans HKL3.out);have HK2:=Lib.hid hK2;have HD2:=Lib.hid hD2;clear hall hbL hK2 hD2
             gi_wp2
             have hd:=HD.out;have hd2:=HD2.out;have hd3:=HD3.out D (by simp);have hlw:=HLW3.out;have hk1:=(KeepsOthers.setCell W ⟨w.heap.size+1+1,0,none⟩ (.int .i64 0)).same _ _ HKB.out rfl;have hk2:=(KeepsOthers.setCell W ⟨w.heap.size+1+1,0,none⟩ (.int .i64 0)).same _ _ HK2.out rfl;have hb5:=HC5.out.bel.setCell (p:=⟨w.heap.size+1+1,0,none⟩) (by show w.heap.size≤w.heap.size+1+1;omega) (.int .i64 0);exact ck_end2 rfl (World.cell?_setCell_same _ _ _ r0) (by omega) (by omega) (by omega) hk1 hk2 ⟨by rw [HE5.out],put_below (put_below hb5 (by omega) hk2 (Nat.le_refl _)) (by omega) ((World.putObj_heap_other (by omega)).trans hk1) (Nat.le_refl _)⟩
            case hstop =>
             rintro D2 cc pre W hD2 hpre ⟨⟨⟨rfl,⟨x,hx,hv⟩,hc⟩,hbw⟩,hds⟩ hK2;have HE5:Hid (keyE 0 nm m o z s u h rs=13):=Lib.hid (HE4.out.trans (if_neg (by rw [okB_some (hpre.subset hx) hv];decide)));have hk1:=hds D (by simp);have hd:=HD.out;have hd3:=HD3.out D (by simp);have hlw:=HLW3.out
             gi_wp2
             exact ck_end2 rfl hc (by omega) (by omega) (by omega) hk1 hK2 ⟨by rw [HE5.out],put_below (put_below hbw (by omega) hK2 (Nat.le_refl _)) (by omega) ((World.putObj_heap_other (by omega)).trans hk1) (Nat.le_refl _)⟩
          · have HE3:Hid (keyE 0 nm m o z s u h rs=13):=Lib.hid (by rw [HE2.out,if_neg (fun hh=>hg (hG ▸ hh.2))])
            have p1:(G != 0)=true:=by simpa using hg
            clear hG hg
            gi_wp2_with (first
             | (refine ⟨trivial,?_⟩;gi_at_call 80;(with_reducible refine (callsIn_wide.2 (KNm.out _)).mono ?_);rintro e w2 ⟨rfl,rfl⟩)
             | (refine ⟨trivial,?_⟩;gi_at_call 81;(with_reducible refine (callsIn_wide.2 (KG.out _)).mono ?_);rintro e w3 ⟨rfl,hb3⟩
                have HC3:=Lib.hid (HC2.out.next hb3);have HK3:=Lib.hid ((hb3.block _ HDW.out).trans HK1.out);obtain ⟨k0,k1,k2,k5,r0,f0⟩:=HC3.out.cells
                clear hb3))
            exact ck_end1 rfl (World.cell?_setCell_same _ _ _ r0) (by have:=HD.out;omega) ((KeepsOthers.setCell _ _ _).same _ _ HK3.out rfl)
             ⟨by rw [HE3.out],put_below (HC3.out.bel.setCell (p:=⟨w.heap.size+1+1,0,none⟩) (by show w.heap.size≤w.heap.size+1+1;omega) _) (by have:=HD.out;omega) ((KeepsOthers.setCell _ _ _).same _ _ HK3.out rfl) (Nat.le_refl _)⟩
     case hstop =>
      rintro D cc pre W hD hpre ⟨⟨⟨rfl,⟨x,hx,hv⟩,hc⟩,hbw⟩,_⟩ hK;have HE:Hid (keyE 0 nm m o z s u h rs=3):=Lib.hid (keyE_form2 (hpre.subset hx) hv)
      gi_wp2
      exact ck_end1 rfl hc (by have:=HLW.out;omega) hK ⟨by rw [HE.out],put_below hbw (by have:=HLW.out;omega) hK (Nat.le_refl _)⟩
 · have HE:=Lib.hid (keyE_par (nm:=nm) (m:=m) (o:=o) (z:=z) (s:=s) (u:=u) (h:=h) (rs:=rs) h0)
   have p1:(P != 0)=true:=by simpa using h0
   clear h0
   gi_wp2_with (first
    | (refine wpListIn_load_row rfl 30 _ rfl _ rfl 30 _ (0,0) _ HC0.out.par Tryz.underlying30 rfl (info17'.trans rfl) ?_)
    | (refine ⟨trivial,?_⟩;gi_at_call 19;(with_reducible refine (callsIn_wide.2 (HKP.out _ HC0.out.bel)).mono ?_);rintro e w1 ⟨rfl,hb1⟩
       have HC1:=Lib.hid (HC0.out.next hb1);obtain ⟨k0,k1,k2,k5,r0,f0⟩:=HC1.out.cells
       clear hb1))
   exact ck_end0 rfl (World.cell?_setCell_same _ _ _ r0) ⟨by rw [HE.out],HC1.out.bel.setCell (p:=⟨w.heap.size+1+1,0,none⟩) (by show w.heap.size≤w.heap.size+1+1;omega) _⟩
end Go.Proofs.YtiacajjpkncomaaGreatDoor
