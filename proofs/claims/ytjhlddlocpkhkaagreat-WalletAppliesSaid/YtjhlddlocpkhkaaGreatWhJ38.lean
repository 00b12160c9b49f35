/- Wallet: the law WalletChanges; printed by genNy.py. Wallet: words that open the arguments of a row: a wallet, a change; each string within the form's reach. Wallet: words that open the arguments of a row: slices, the wallet, the change. Wallet, plain: reading the items of an entry, or failing; what is read is what would be written. -/
import Derived.Test.YtjhlddlocpkhkaaGreatWhJ24
import Derived.Test.YtjhlddlocpkhkaaGreatWhJ08
import Derived.Test.YtjhlddlocpkhkaaGreatWhJ16
import Derived.Test.YtjhlddlocpkhkaaGreatWhJ28
import Derived.Test.YtjhlddlocpkhkaaGreatWhNl
import Derived.Test.YtjhlddlocpkhkaaGreatWhYu
import Derived.Test.YtjhlddlocpkhkaaGreatWhJ25
import Derived.Test.YtjhlddlocpkhkaaGreatWhYt
import Derived.Test.YtjhlddlocpkhkaaGreatWhVaj
import Derived.Test.YtjhlddlocpkhkaaGreatWhNt
import Derived.Test.YtjhlddlocpkhkaaGreatWhNv
import Derived.Test.YtjhlddlocpkhkaaGreatWhVba
import Derived.Test.YtjhlddlocpkhkaaGreatWhJ33
import Derived.Test.YtjhlddlocpkhkaaGreatWhJ37
import Derived.Test.YtjhlddlocpkhkaaGreatWhJ00
import Derived.SizedLaws
namespace Go.Proofs.YtjhlddlocpkhkaaGreat
open Go.RowKit
set_option maxRecDepth 100000
set_option linter.unusedVariables false
set_option maxHeartbeats 16000000
theorem sumA_mem {l : List Az} {y : Az} (h : y ∈ l) : sizeA y≤sumA l:=by
 induction l with
 | nil=>cases h
 | cons z r ih =>
   rcases List.mem_cons.1 h with rfl | h
   · simp only [sumA];omega
   · have:=ih h;simp only [sumA];omega
theorem sumU_mem {l : List Uz} {y : Uz} (h : y ∈ l) : y.1.size≤sumU l:=by
 induction l with
 | nil=>cases h
 | cons z r ih =>
   rcases List.mem_cons.1 h with rfl | h
   · simp only [sumU];omega
   · have:=ih h;simp only [sumU];omega
theorem few_all {sec : ByteArray} {qs : List Az} {hs : List Hz} {us : List Uz} (h : fewB sec qs hs us=true) : (qs.length≤8∧hs.length≤8∧us.length≤8∧sec.size≤200∧sumA qs+sumU us≤1200)∧∀ x ∈ hs,x.att.length≤10∧sizeH x≤600:=by
 unfold fewB at h
 rw [Bool.and_eq_true] at h
 refine ⟨of_decide_eq_true h.1,fun x hx=>?_⟩
 have:=List.all_eq_true.1 h.2 x hx
 exact of_decide_eq_true this
theorem few_okR {sec : ByteArray} {qs : List Az} {hs : List Hz} {us : List Uz} (h : fewB sec qs hs us=true) (hwf : ∀ x ∈ us,(Lit.int .i64 x.2.1).wf=true) : WalOk qs hs us:=by
 obtain ⟨⟨h1,h2,h3,h4,h5⟩,h6⟩:=few_all h
 refine ⟨by omega,by omega,by omega,fun x hx=>?_,fun x hx=>by have:=(h6 x hx).1;omega,fun x hx=>⟨?_,hwf x hx⟩⟩
 · have:=sumA_mem hx;unfold sizeA at this;omega
 · have:=sumU_mem hx;omega
def SmallR (R : Rs) : Prop:=R.qs.length≤100000∧R.hs.length≤100000∧R.us.length≤100000∧∀ x ∈ R.hs,x.att.length≤100000
theorem smallR_err (z : Int) : SmallR (Rs.err z):=⟨by simp [Rs.err],by simp [Rs.err],by simp [Rs.err],fun x hx=>by simp [Rs.err] at hx⟩
end Go.Proofs.YtjhlddlocpkhkaaGreat
namespace Go.Proofs.YtjhlddlocpkhkaaGreat
open Go.ChangeShapes Go.WideShapes Go.ChangeAt Go.WideElems Go.RowKit
set_option maxRecDepth 100000
set_option linter.unusedVariables false
set_option maxHeartbeats 4000000
theorem ceAz : Tryz.prog.cellsOf 40=5:=by kernel_rfl
theorem ceIs : Tryz.prog.cellsOf 38=2:=by kernel_rfl
theorem ceHz : Tryz.prog.cellsOf 47=9:=by kernel_rfl
theorem ceCr : Tryz.prog.cellsOf 45=7:=by kernel_rfl
theorem ceSg : Tryz.prog.cellsOf 43=3:=by kernel_rfl
theorem ceUz : Tryz.prog.cellsOf 57=3:=by kernel_rfl
theorem ceWa : Tryz.prog.cellsOf 27=4:=by kernel_rfl
theorem ceStr : Tryz.prog.cellsOf 9=1:=by kernel_rfl
theorem ceNat : Tryz.prog.cellsOf 22=1:=by kernel_rfl
theorem ceInt : Tryz.prog.cellsOf 3=1:=by kernel_rfl
theorem ceNats : Tryz.prog.cellsOf 41=1:=by kernel_rfl
theorem ceAzs : Tryz.prog.cellsOf 23=1:=by kernel_rfl
theorem ceHzs : Tryz.prog.cellsOf 24=1:=by kernel_rfl
theorem ceUzs : Tryz.prog.cellsOf 25=1:=by kernel_rfl
section
variable {H : Type}
def LeR (P : Program) (t : TypeId) (d : DataW H) : Prop:=∀ k ∈ d.weights P t,k≤reachBytes
theorem weightsEach_mem {P : Program} : ∀ (ts : List TypeId) (ds : List (DataW H)) (i : Nat) (t : TypeId) (d : DataW H),ts[i]?=some t→ds[i]?=some d→∀ k ∈ d.weights P t,k ∈ DataW.weightsEach P ts ds
 | [],_,i,_,_,h,_,_,_=>by simp at h
 | _::_,[],i,_,_,_,h,_,_=>by simp at h
 | t0::ts,d0::ds,0,t,d,h1,h2,k,hk=>by
   simp at h1 h2
   subst h1 h2
   rw [DataW.weightsEach]
   exact List.mem_append_left _ hk
 | t0::ts,d0::ds,i+1,t,d,h1,h2,k,hk=>by
   simp at h1 h2
   rw [DataW.weightsEach]
   exact List.mem_append_right _ (weightsEach_mem ts ds i t d h1 h2 k hk)
theorem weightsAll_mem {P : Program} {e : TypeId} : ∀ (ds : List (DataW H)) (i : Nat) (d : DataW H),ds[i]?=some d→∀ k ∈ d.weights P e,k ∈ DataW.weightsAll P e ds
 | [],i,_,h,_,_=>by simp at h
 | d0::ds,0,d,h,k,hk=>by
   simp at h
   subst h
   rw [DataW.weightsAll]
   exact List.mem_append_left _ hk
 | d0::ds,i+1,d,h,k,hk=>by
   simp at h
   rw [DataW.weightsAll]
   exact List.mem_append_right _ (weightsAll_mem ds i d h k hk)
variable {enc : TypeId × Value→H} {P : Program} {w : World} {base fuel : Nat} {spare : Nat→Bool} {held : Bool} {t e : TypeId} {cs : List Value} {x : DataW H × List MemPlace}
theorem tl_string (ht : P.underlying t=some .string) (hl : LeR P t x.1) (h : DataW.trod enc P w base spare held fuel t cs=some x) : ∃ s : ByteArray,cs=[.string s]∧s.size≤140737488351232:=by
 obtain ⟨s,h1,h2,_⟩:=DataW.trod_string ht h
 refine ⟨s,h1,?_⟩
 have:=hl s.data.toList.length (by rw [h2,DataW.weights];simp)
 have e1 : reachBytes=140737488351232:=rfl
 rw [e1] at this
 simpa using this
theorem tl_struct {fs : Array Field} (ht : P.underlying t=some (.struct fs)) (hl : LeR P t x.1) (h : DataW.trod enc P w base spare held fuel t cs=some x) :
  cs.length=P.cellsOf t∧∃ n,∀ (i : Nat) (f : Field),fs[i]?=some f→∃ y,DataW.trod enc P w base spare held n f.type ((cs.drop f.offset).take (P.cellsOf f.type))=some y∧LeR P f.type y.1:=by
 obtain ⟨xs,n,_,hx,hlen,hxs,hfs⟩:=DataW.trod_struct ht h
 refine ⟨hlen,n,fun i f hf=>?_⟩
 have hi : i < xs.length:=by rw [hxs];exact (Array.getElem?_eq_some_iff.1 hf).1
 refine ⟨xs[i],by rw [hfs i f hf,List.getElem?_eq_getElem hi],fun k hk=>hl k ?_⟩
 rw [hx,DataW.weights.eq_6]<;>first | skip | exact ht
 simp only [ht]
 exact weightsEach_mem _ _ i f.type _ (by rw [List.getElem?_map,Array.getElem?_toList,hf];rfl) (by rw [List.getElem?_map,List.getElem?_eq_getElem hi];rfl) k hk
theorem tl_slice (ht : P.underlying t=some (.slice e)) (hl : LeR P t x.1) (h : DataW.trod enc P w base spare held fuel t cs=some x) :
  cs=[.slice none 0 0]∨∃ (a : Addr) (len cap n : Nat),cs=[.slice (some a) len cap]∧len≤cap∧cap≤maxLen∧∀ i,i < len→∃ cs' y,cs'.length=P.cellsOf e∧(∀ j,j < P.cellsOf e→w.cell? ((a.add (i*P.cellsOf e)).add j)=cs'[j]?)∧DataW.trod enc P w base spare held n e cs'=some y∧LeR P e y.1:=by
 rcases DataW.trod_slice ht h with h0 | ⟨a,len,cap,elems,rest,n,_,h1,hx,_,h2,h3,h4,h5,_⟩
 · exact .inl h0.1
 · refine .inr ⟨a,len,cap,n,h1,h2,h3,fun i hi=>?_⟩
   have hi' : i < elems.length:=by omega
   have h6:=h5 i hi
   rw [List.getElem?_eq_getElem hi'] at h6
   obtain ⟨cs',h7,h8⟩:=Option.bind_eq_some_iff.1 h6
   obtain ⟨_,h9,h10⟩:=World.cells?_some h7
   refine ⟨cs',elems[i],h9,h10,h8,fun k hk=>hl k ?_⟩
   rw [hx,DataW.weights.eq_5]<;>first | skip | exact ht
   simp only [ht]
   exact List.mem_cons_of_mem _ (List.mem_append_left _ (weightsAll_mem _ i _ (by rw [List.getElem?_map,List.getElem?_eq_getElem hi'];rfl) k hk))
end
theorem choose_list {X : Type} {p : Nat→X→Prop} : ∀ n : Nat,(∀ i,i < n→∃ v,p i v)→∃ L : List X,L.length=n∧∀ (i : Nat) v,L[i]?=some v→p i v
 | 0,_=>⟨[],rfl,fun i v h=>by simp at h⟩
 | n+1,h=>by
   obtain ⟨L,h1,h2⟩:=choose_list n (fun i hi=>h i (Nat.lt_succ_of_lt hi))
   obtain ⟨v,hv⟩:=h n (Nat.lt_succ_self n)
   refine ⟨L++[v],by simp [h1],fun i u hu=>?_⟩
   by_cases hi : i < L.length
   · rw [List.getElem?_append_left hi] at hu
     exact h2 i u hu
   · rw [List.getElem?_append_right (by omega)] at hu
     have h0 : i - L.length=0:=by
      have:=(List.getElem?_eq_some_iff.1 hu).1
      simp at this
      omega
     rw [h0] at hu
     simp at hu
     subst hu
     have e1 : i=n:=by omega
     rw [e1]
     exact hv
theorem flat_get {X : Type} (f : X→List Value) (sz : Nat) (hf : ∀ v,(f v).length=sz) : ∀ (L : List X) (j : Nat) (u : Value),(L.flatMap f)[j]?=some u→∃ i v r,L[i]?=some v∧j=i*sz+r∧r < sz∧(f v)[r]?=some u
 | [],j,u,h=>by simp at h
 | v::L,j,u,h=>by
   rw [List.flatMap_cons] at h
   by_cases hj : j < (f v).length
   · rw [List.getElem?_append_left hj] at h
     exact ⟨0,v,j,rfl,by simp,by rw [← hf v];exact hj,h⟩
   · rw [List.getElem?_append_right (by omega)] at h
     obtain ⟨i,v',r,h1,h2,h3,h4⟩:=flat_get f sz hf L _ u h
     have:=hf v
     exact ⟨i+1,v',r,h1,by rw [Nat.add_mul];omega,h3,h4⟩
theorem row_of {X : Type} {W : World} {a : Addr} {len sz : Nat} (f : X→List Value) (hf : ∀ v,(f v).length=sz) (hsz : 0 < sz) (L : List X) (hL : L.length=len) (h : ∀ (i : Nat) v,L[i]?=some v→∀ j,j < sz→W.cell? ((a.add (i*sz)).add j)=(f v)[j]?) : RowC W (fun g=>g < W.heap.size) (some a) len (L.flatMap f):=by
 intro h0
 obtain ⟨v,hv⟩ : ∃ v,L[0]?=some v:=⟨L[0]'(by omega),List.getElem?_eq_getElem _⟩
 have h1:=h 0 v hv 0 hsz
 have e0 : (a.add (0*sz)).add 0=a:=by simp [Addr.add]
 rw [e0,List.getElem?_eq_getElem (by rw [hf];exact hsz)] at h1
 have hsp : a.spot=none:=by
  unfold World.cell? at h1
  split at h1
  · split at h1
    · cases h1
    · rename_i hs
      simpa using hs
  · cases h1
 obtain ⟨g,off,sp⟩:=a
 dsimp only at hsp
 subst hsp
 refine ⟨g,off,rfl,World.block_lt_of_cell? W _ h1,fun j u hu=>?_⟩
 obtain ⟨i,v',r,h2,h3,h4,h5⟩:=flat_get f sz hf L j u hu
 have h6:=h i v' h2 r h4
 rw [addr_add,addr_add,h5] at h6
 rw [h3,← h6]
 congr 2
 omega
def oneA (x : Az) : List Value:=[.string x.1,.string x.2.1,.string x.2.2.1,.string x.2.2.2.1,.string x.2.2.2.2]
def oneU (x : Uz) : List Value:=[.string x.1,.int .i64 x.2.1,.int .i64 x.2.2]
theorem flat_A : ∀ L : List Az,L.flatMap oneA=cellsA L
 | []=>rfl
 | (i,s,n,x,b)::r=>by rw [List.flatMap_cons,flat_A r];rfl
theorem flat_U : ∀ L : List Uz,L.flatMap oneU=cellsU L
 | []=>rfl
 | (s,p,c)::r=>by rw [List.flatMap_cons,flat_U r];rfl
theorem flat_N : ∀ L : List ByteArray,L.flatMap (fun s=>[Value.string s])=cellsN L
 | []=>rfl
 | s::r=>by rw [List.flatMap_cons,flat_N r];rfl
section
variable {H : Type} {enc : TypeId × Value→H} {W : World} {base fuel : Nat} {sp : Nat→Bool} {held : Bool} {x : DataW H × List MemPlace}
theorem open_nat1 {c : Value} (hl : LeR Tryz.prog 22 x.1) (hf : DataW.trod enc Tryz.prog W base sp held fuel 22 [c]=some x) : ∃ s : ByteArray,c=.string s∧s.size≤140737488351232:=by
 obtain ⟨s,e,h⟩:=tl_string Tryz.underlying22 hl hf
 exact ⟨s,by simpa using e,h⟩
theorem open_str1 {c : Value} (hl : LeR Tryz.prog 9 x.1) (hf : DataW.trod enc Tryz.prog W base sp held fuel 9 [c]=some x) : ∃ s : ByteArray,c=.string s∧s.size≤140737488351232:=by
 obtain ⟨s,e,h⟩:=tl_string Tryz.underlying9 hl hf
 exact ⟨s,by simpa using e,h⟩
theorem open_int1 {c : Value} (hf : DataW.trod enc Tryz.prog W base sp held fuel 3 [c]=some x) : ∃ z : Int,c=.int .i64 z∧(Lit.int .i64 z).wf=true:=by
 obtain ⟨z,e,_,h⟩:=DataW.trod_int Tryz.underlying3 hf
 exact ⟨z,by simpa using e,h⟩
theorem open_natsR {c : Value} (hl : LeR Tryz.prog 41 x.1) (hf : DataW.trod enc Tryz.prog W base sp held fuel 41 [c]=some x) :
  ∃ (A : Option Addr) (n cp : Nat) (ls : List ByteArray),c=.slice A n cp∧ls.length=n∧RowC W (fun g=>g < W.heap.size) A n (cellsN ls)∧∀ y ∈ ls,y.size≤140737488351232:=by
 rcases tl_slice Tryz.underlying41 hl hf with h0 | ⟨a,len,cap,n,h1,_,_,hi⟩
 · exact ⟨none,0,0,[],by simpa using h0,rfl,fun h=>absurd h (by simp),by simp⟩
 · rw [ceNat] at hi
   obtain ⟨L,hL,hp⟩:=choose_list (p:=fun i (s : ByteArray)=>(∀ j,j < 1→W.cell? ((a.add (i*1)).add j)=[Value.string s][j]?)∧s.size≤140737488351232) len (fun i hil=>by
    obtain ⟨cs',y,h2,h3,h4,h5⟩:=hi i hil
    match cs',h2 with
    | [c0],_ =>
    obtain ⟨s,rfl,h6⟩:=open_nat1 h5 h4
    exact ⟨s,h3,h6⟩)
   refine ⟨some a,len,cap,L,by simpa using h1,hL,?_,fun y hy=>?_⟩
   · have:=row_of (W:=W) (a:=a) (fun s : ByteArray=>[Value.string s]) (sz:=1) (fun _=>rfl) (by decide) L hL (fun i v hv=>(hp i v hv).1)
     rwa [flat_N] at this
   · obtain ⟨i,hi⟩:=List.mem_iff_getElem?.1 hy
     exact (hp i y hi).2
theorem open_askedR {c0 c1 c2 c3 c4 : Value} (hl : LeR Tryz.prog 40 x.1) (hf : DataW.trod enc Tryz.prog W base sp held fuel 40 [c0,c1,c2,c3,c4]=some x) :
  ∃ y : Az,[c0,c1,c2,c3,c4]=oneA y∧BndA 140737488351232 y:=by
 obtain ⟨_,n,hfs⟩:=tl_struct Tryz.underlying40 hl hf
 obtain ⟨y0,f0,l0⟩:=hfs 0 _ rfl
 obtain ⟨y1,f1,l1⟩:=hfs 1 _ rfl
 obtain ⟨y2,f2,l2⟩:=hfs 2 _ rfl
 obtain ⟨y3,f3,l3⟩:=hfs 3 _ rfl
 simp [ceStr,ceIs] at f0 f1 f2 f3
 obtain ⟨i,rfl,b0⟩:=open_str1 l0 f0
 obtain ⟨s,rfl,b1⟩:=open_str1 l1 f1
 obtain ⟨nn,rfl,b2⟩:=open_str1 l2 f2
 obtain ⟨_,m,hgs⟩:=tl_struct Tryz.underlying38 l3 f3
 obtain ⟨z0,g0,k0⟩:=hgs 0 _ rfl
 obtain ⟨z1,g1,k1⟩:=hgs 1 _ rfl
 simp [ceNat] at g0 g1
 obtain ⟨xx,rfl,b3⟩:=open_nat1 k0 g0
 obtain ⟨b,rfl,b4⟩:=open_nat1 k1 g1
 exact ⟨(i,s,nn,xx,b),rfl,b0,b1,b2,b3,b4⟩
theorem open_usedR {c0 c1 c2 : Value} (hl : LeR Tryz.prog 57 x.1) (hf : DataW.trod enc Tryz.prog W base sp held fuel 57 [c0,c1,c2]=some x) :
  ∃ y : Uz,[c0,c1,c2]=oneU y∧y.1.size≤140737488351232∧(Lit.int .i64 y.2.1).wf=true:=by
 obtain ⟨_,n,hfs⟩:=tl_struct Tryz.underlying57 hl hf
 obtain ⟨y0,f0,l0⟩:=hfs 0 _ rfl
 obtain ⟨y1,f1,l1⟩:=hfs 1 _ rfl
 obtain ⟨y2,f2,l2⟩:=hfs 2 _ rfl
 simp [ceStr,ceInt] at f0 f1 f2
 obtain ⟨s,rfl,b0⟩:=open_str1 l0 f0
 obtain ⟨p,rfl,w1⟩:=open_int1 f1
 obtain ⟨q,rfl,w2⟩:=open_int1 f2
 exact ⟨(s,p,q),rfl,b0,w1⟩
theorem open_heldR {c0 c1 c2 c3 c4 c5 c6 c7 c8 : Value} (hl : LeR Tryz.prog 47 x.1) (hf : DataW.trod enc Tryz.prog W base sp held fuel 47 [c0,c1,c2,c3,c4,c5,c6,c7,c8]=some x) :
  ∃ (y : Hz) (A : Option Addr) (c : Nat),[c0,c1,c2,c3,c4,c5,c6,c7,c8]=cellsH y A c∧BndH 140737488351232 y∧RowC W (fun g=>g < W.heap.size) A y.att.length (cellsN y.att)∧(Lit.int .i64 y.ver).wf=true∧(Lit.int .i64 y.ep).wf=true:=by
 obtain ⟨_,n,hfs⟩:=tl_struct Tryz.underlying47 hl hf
 obtain ⟨y0,f0,l0⟩:=hfs 0 _ rfl
 obtain ⟨y1,f1,l1⟩:=hfs 1 _ rfl
 obtain ⟨y2,f2,l2⟩:=hfs 2 _ rfl
 simp [ceCr,ceInt,ceNat] at f0 f1 f2
 obtain ⟨ep,rfl,w1⟩:=open_int1 f1
 obtain ⟨wit,rfl,b6⟩:=open_nat1 l2 f2
 obtain ⟨_,m,hgs⟩:=tl_struct Tryz.underlying45 l0 f0
 obtain ⟨z0,g0,k0⟩:=hgs 0 _ rfl
 obtain ⟨z1,g1,k1⟩:=hgs 1 _ rfl
 obtain ⟨z2,g2,k2⟩:=hgs 2 _ rfl
 obtain ⟨z3,g3,k3⟩:=hgs 3 _ rfl
 obtain ⟨z4,g4,k4⟩:=hgs 4 _ rfl
 simp [ceStr,ceInt,ceNats,ceSg] at g0 g1 g2 g3 g4
 obtain ⟨iss,rfl,b0⟩:=open_str1 k0 g0
 obtain ⟨sch,rfl,b1⟩:=open_str1 k1 g1
 obtain ⟨ver,rfl,w2⟩:=open_int1 g2
 obtain ⟨A,na,cp,ls,rfl,hln,hrow,hb⟩:=open_natsR k3 g3
 obtain ⟨_,q,hqs⟩:=tl_struct Tryz.underlying43 k4 g4
 obtain ⟨v0,e0,m0⟩:=hqs 0 _ rfl
 obtain ⟨v1,e1,m1⟩:=hqs 1 _ rfl
 obtain ⟨v2,e2,m2⟩:=hqs 2 _ rfl
 simp [ceNat] at e0 e1 e2
 obtain ⟨sa,rfl,b3⟩:=open_nat1 m0 e0
 obtain ⟨se,rfl,b4⟩:=open_nat1 m1 e1
 obtain ⟨sv,rfl,b5⟩:=open_nat1 m2 e2
 subst hln
 exact ⟨⟨iss,sch,ver,ls,sa,se,sv,ep,wit⟩,A,cp,rfl,⟨b0,b1,b3,b4,b5,b6,hb⟩,hrow,w2,w1⟩
end
theorem relH_flat {w : World} {S : Nat→Prop} : ∀ L : List (Hz × Option Addr × Nat),(∀ v ∈ L,RowC w S v.2.1 v.1.att.length (cellsN v.1.att))→RelH w S (L.map (·.1)) (L.flatMap fun v=>cellsH v.1 v.2.1 v.2.2)
 | [],_=>rfl
 | v::r,h=>⟨v.2.1,v.2.2,_,rfl,h v (by simp),relH_flat r (fun u hu=>h u (by simp [hu]))⟩
section
variable {H : Type} {enc : TypeId × Value→H} {W : World} {base fuel b0 : Nat} {sp : Nat→Bool} {held : Bool} {r : Reach} {x : DataW H × List MemPlace} {v : Value} {d : DataW H} {ps : List MemPlace}
theorem open_askedsR {c : Value} (hl : LeR Tryz.prog 23 x.1) (hf : DataW.trod enc Tryz.prog W base sp held fuel 23 [c]=some x) :
  ∃ (A : Option Addr) (n cp : Nat) (qs : List Az),c=.slice A n cp∧qs.length=n∧SlA W (fun g=>g < W.heap.size) A qs∧∀ y ∈ qs,BndA 140737488351232 y:=by
 rcases tl_slice Tryz.underlying23 hl hf with h0 | ⟨a,len,cap,n,h1,_,_,hi⟩
 · exact ⟨none,0,0,[],by simpa using h0,rfl,fun h=>absurd h (by simp),by simp⟩
 · rw [ceAz] at hi
   obtain ⟨L,hL,hp⟩:=choose_list (p:=fun i (s : Az)=>(∀ j,j < 5→W.cell? ((a.add (i*5)).add j)=(oneA s)[j]?)∧BndA 140737488351232 s) len (fun i hil=>by
    obtain ⟨cs',y,h2,h3,h4,h5⟩:=hi i hil
    match cs',h2 with
    | [c0,c1,c2,c3,c4],_ =>
    obtain ⟨s,h6,h7⟩:=open_askedR h5 h4
    exact ⟨s,by rw [← h6];exact h3,h7⟩)
   refine ⟨some a,len,cap,L,by simpa using h1,hL,?_,fun y hy=>?_⟩
   · have:=row_of (W:=W) (a:=a) oneA (sz:=5) (fun _=>rfl) (by decide) L hL (fun i v hv=>(hp i v hv).1)
     unfold SlA
     rwa [flat_A,← hL] at this
   · obtain ⟨i,hi⟩:=List.mem_iff_getElem?.1 hy
     exact (hp i y hi).2
theorem open_usedsR {c : Value} (hl : LeR Tryz.prog 25 x.1) (hf : DataW.trod enc Tryz.prog W base sp held fuel 25 [c]=some x) :
  ∃ (A : Option Addr) (n cp : Nat) (us : List Uz),c=.slice A n cp∧us.length=n∧SlU W (fun g=>g < W.heap.size) A us∧∀ y ∈ us,y.1.size≤140737488351232∧(Lit.int .i64 y.2.1).wf=true:=by
 rcases tl_slice Tryz.underlying25 hl hf with h0 | ⟨a,len,cap,n,h1,_,_,hi⟩
 · exact ⟨none,0,0,[],by simpa using h0,rfl,fun h=>absurd h (by simp),by simp⟩
 · rw [ceUz] at hi
   obtain ⟨L,hL,hp⟩:=choose_list (p:=fun i (s : Uz)=>(∀ j,j < 3→W.cell? ((a.add (i*3)).add j)=(oneU s)[j]?)∧s.1.size≤140737488351232∧(Lit.int .i64 s.2.1).wf=true) len (fun i hil=>by
    obtain ⟨cs',y,h2,h3,h4,h5⟩:=hi i hil
    match cs',h2 with
    | [c0,c1,c2],_ =>
    obtain ⟨s,h6,h7⟩:=open_usedR h5 h4
    exact ⟨s,by rw [← h6];exact h3,h7⟩)
   refine ⟨some a,len,cap,L,by simpa using h1,hL,?_,fun y hy=>?_⟩
   · have:=row_of (W:=W) (a:=a) oneU (sz:=3) (fun _=>rfl) (by decide) L hL (fun i v hv=>(hp i v hv).1)
     unfold SlU
     rwa [flat_U,← hL] at this
   · obtain ⟨i,hi⟩:=List.mem_iff_getElem?.1 hy
     exact (hp i y hi).2
theorem open_heldsR {c : Value} (hl : LeR Tryz.prog 24 x.1) (hf : DataW.trod enc Tryz.prog W base sp held fuel 24 [c]=some x) :
  ∃ (A : Option Addr) (n cp : Nat) (hs : List Hz),c=.slice A n cp∧hs.length=n∧SlH W (fun g=>g < W.heap.size) A hs∧∀ y ∈ hs,BndH 140737488351232 y:=by
 rcases tl_slice Tryz.underlying24 hl hf with h0 | ⟨a,len,cap,n,h1,_,_,hi⟩
 · exact ⟨none,0,0,[],by simpa using h0,rfl,⟨[],fun h=>absurd h (by simp),rfl⟩,by simp⟩
 · rw [ceHz] at hi
   obtain ⟨L,hL,hp⟩:=choose_list (p:=fun i (s : Hz × Option Addr × Nat)=>(∀ j,j < 9→W.cell? ((a.add (i*9)).add j)=(cellsH s.1 s.2.1 s.2.2)[j]?)∧BndH 140737488351232 s.1∧RowC W (fun g=>g < W.heap.size) s.2.1 s.1.att.length (cellsN s.1.att)) len (fun i hil=>by
    obtain ⟨cs',y,h2,h3,h4,h5⟩:=hi i hil
    match cs',h2 with
    | [c0,c1,c2,c3,c4,c5,c6,c7,c8],_ =>
    obtain ⟨s,A,cc,h6,h7,h8,_,_⟩:=open_heldR h5 h4
    exact ⟨(s,A,cc),by rw [← h6];exact h3,h7,h8⟩)
   refine ⟨some a,len,cap,L.map (·.1),by simpa using h1,by simpa using hL,⟨L.flatMap (fun v=>cellsH v.1 v.2.1 v.2.2),?_,relH_flat L (fun v hv=>?_)⟩,fun y hy=>?_⟩
   · have:=row_of (W:=W) (a:=a) (fun v : Hz × Option Addr × Nat=>cellsH v.1 v.2.1 v.2.2) (sz:=9) (fun _=>rfl) (by decide) L hL (fun i v hv=>(hp i v hv).1)
     rw [List.length_map,hL]
     exact this
   · obtain ⟨i,hi⟩:=List.mem_iff_getElem?.1 hv
     exact (hp i v hi).2.2
   · obtain ⟨z,hz,rfl⟩:=List.mem_map.1 hy
     obtain ⟨i,hi⟩:=List.mem_iff_getElem?.1 hz
     exact (hp i z hi).2.1
theorem open_wallet (hok : Value.okWide Tryz.prog W r b0 27 v) (hl : LeR Tryz.prog 27 d) (h : DataW.Trod enc Tryz.prog W base sp held 27 v d ps) :
  ∃ (sec : ByteArray) (qs : List Az) (hs : List Hz) (us : List Uz) (Aa Ah Au : Option Addr) (na ca nh ch nu cu : Nat),v=.agg #[.string sec,.slice Aa na ca,.slice Ah nh ch,.slice Au nu cu]∧qs.length=na∧hs.length=nh∧us.length=nu∧WalM W (fun g=>g < W.heap.size) qs hs us Aa Ah Au ∧
   sec.size≤140737488351232∧(∀ y ∈ qs,BndA 140737488351232 y)∧(∀ y ∈ hs,BndH 140737488351232 y)∧(∀ y ∈ us,y.1.size≤140737488351232∧(Lit.int .i64 y.2.1).wf=true):=by
 obtain ⟨cs,rfl,hsz⟩:=okWide_struct Tryz.underlying27 hok
 rw [ceWa] at hsz
 obtain ⟨l⟩:=cs
 match l,hsz with
 | [c0,c1,c2,c3],_ =>
 obtain ⟨fuel,hf⟩:=h
 obtain ⟨_,n,hfs⟩:=tl_struct Tryz.underlying27 (x:=(d,ps)) hl hf
 obtain ⟨y0,f0,l0⟩:=hfs 0 _ rfl
 obtain ⟨y1,f1,l1⟩:=hfs 1 _ rfl
 obtain ⟨y2,f2,l2⟩:=hfs 2 _ rfl
 obtain ⟨y3,f3,l3⟩:=hfs 3 _ rfl
 simp [Value.cells,ceNat,ceAzs,ceHzs,ceUzs] at f0 f1 f2 f3
 obtain ⟨sec,rfl,b0⟩:=open_nat1 l0 f0
 obtain ⟨Aa,na,ca,qs,rfl,hq,ha,ba⟩:=open_askedsR l1 f1
 obtain ⟨Ah,nh,ch,hs,rfl,hn,hh,bh⟩:=open_heldsR l2 f2
 obtain ⟨Au,nu,cu,us,rfl,hu,hu2,bu⟩:=open_usedsR l3 f3
 exact ⟨sec,qs,hs,us,Aa,Ah,Au,na,ca,nh,ch,nu,cu,rfl,hq,hn,hu,⟨ha,hh,hu2⟩,b0,ba,bh,bu⟩
end
end Go.Proofs.YtjhlddlocpkhkaaGreat
namespace Go.Proofs.YtjhlddlocpkhkaaGreat
open Go.RowKit
set_option maxRecDepth 100000
set_option linter.unusedVariables false
set_option maxHeartbeats 4000000
def nxt (k : Int) : Its→Option (Its.One × Its)
 | .nil=>none
 | .cons k' n t l r=>if k'=k then some ((k',n,t,l),r) else none
theorem nxt_some {k : Int} {l r : Its} {y : Its.One} (h : nxt k l=some (y,r)) : y.1=k∧l=.cons k y.2.1 y.2.2.1 y.2.2.2 r:=by
 cases l with
 | nil=>cases h
 | cons k' n t l r' =>
   simp only [nxt] at h
   split at h
   · rename_i hk
     subst hk
     simp only [Option.some.injEq,Prod.mk.injEq] at h
     obtain ⟨h1,h2⟩:=h
     subst h1 h2
     exact ⟨rfl,rfl⟩
   · cases h
theorem nxt_cons (k : Int) (n t : ByteArray) (l r : Its) : nxt k (.cons k n t l r)=some ((k,n,t,l),r):=by simp [nxt]
theorem nxt_other {k k' : Int} (h : k'≠k) (n t : ByteArray) (l r : Its) : nxt k (.cons k' n t l r)=none:=by simp [nxt,h]
def toI : Its→Option (Bool × ByteArray)
 | .cons k s _ _ (.cons k2 a _ _ .nil)=>if k=0∧k2=0 then (if s.size=0 then some (false,a) else if s=B 1∧a.size≠0 then some (true,a) else none) else none
 | _=>none
def smI (neg : Bool) (a : ByteArray) : Option Int :=
 if a.size≤8 then (if neg=true then (if num a≤9223372036854775808 then some (-(num a : Int)) else none) else (if num a≤9223372036854775807 then some (num a : Int) else none)) else none
def numO (l : Its) : Option Int:=match toI l with | none=>none | some p=>smI p.1 p.2
def rTxt (l : Its) : Option (ByteArray × Its):=match nxt 1 l with | none=>none | some p=>some (p.1.2.2.1,p.2)
def rNat (l : Its) : Option (ByteArray × Its):=match nxt 0 l with | none=>none | some p=>some (p.1.2.1,p.2)
def rLst (l : Its) : Option (Its × Its):=match nxt 2 l with | none=>none | some p=>some (p.1.2.2.2,p.2)
def rNum (l : Its) : Option (Int × Its):=match rLst l with | none=>none | some p=>(match numO p.1 with | none=>none | some z=>some (z,p.2))
def natsO : Its→Option (List ByteArray)
 | .nil=>some []
 | .cons k n _ _ r=>if k=0 then (match natsO r with | none=>none | some a=>some (n::a)) else none
def rEnd (l : Its) : Option Unit:=if l.len=0 then some () else none
def heldT (iss sch : ByteArray) (ver : Int) (att : List ByteArray) (l : Its) : Option Hz :=
 match rNat l with | none=>none | some (a,l)=>match rNat l with | none=>none | some (e,l)=>match rNat l with | none=>none | some (v,l)=>match rNum l with | none=>none | some (ep,l)=>match rNat l with | none=>none | some (wit,l)=>match rEnd l with | none=>none | some _=>some ⟨iss,sch,ver,att,a,e,v,ep,wit⟩
def heldM (iss sch : ByteArray) (ver : Int) (l : Its) : Option Hz :=
 match rLst l with | none=>none | some (b,l)=>match natsO b with | none=>none | some att=>heldT iss sch ver att l
def heldC (l : Its) : Option Hz :=
 match rTxt l with | none=>none | some (iss,l)=>match rTxt l with | none=>none | some (sch,l)=>match rNum l with | none=>none | some (ver,l)=>heldM iss sch ver l
def rHeld (l : Its) : Option (Hz × Its):=match rLst l with | none=>none | some p=>(match heldC p.1 with | none=>none | some x=>some (x,p.2))
def secretO (l : Its) : Option ByteArray:=match rNat l with | none=>none | some (n,l)=>match rEnd l with | none=>none | some _=>some n
def askedO (l : Its) : Option Az :=
 match rTxt l with | none=>none | some (i,l)=>match rTxt l with | none=>none | some (s,l)=>match rTxt l with | none=>none | some (n,l)=>match rNat l with | none=>none | some (x,l)=>match rNat l with | none=>none | some (b,l)=>match rEnd l with | none=>none | some _=>some (i,s,n,x,b)
def keptO (l : Its) : Option Hz:=match rHeld l with | none=>none | some (x,l)=>match rEnd l with | none=>none | some _=>some x
def heldO (l : Its) : Option (ByteArray × Hz):=match rTxt l with | none=>none | some (n,l)=>match keptO l with | none=>none | some x=>some (n,x)
def renewO (l : Its) : Option (Int × Hz):=match rNum l with | none=>none | some (n,l)=>match keptO l with | none=>none | some x=>some (n,x)
def usedO (l : Its) : Option Uz :=
 match rTxt l with | none=>none | some (s,l)=>match rNum l with | none=>none | some (p,l)=>match rNum l with | none=>none | some (q,l)=>match rEnd l with | none=>none | some _=>some (s,p,q)
theorem okI_cons {k : Int} {n t : ByteArray} {l r : Its} (h : okI (.cons k n t l r)=true) : okOne (k,n,t,l)=true∧okI r=true:=by
 simp only [okI,Bool.and_eq_true] at h
 refine ⟨?_,h.2⟩
 unfold okOne Its.one
 simp only [okI,Bool.and_true]
 exact h.1
theorem sz0 {s : ByteArray} (h : s.size=0) : s=⟨#[]⟩:=by
 rw [size0 h]
 decide
theorem ok_0 {n t : ByteArray} {l : Its} (h : okOne (0,n,t,l)=true) : valid n=true∧t=⟨#[]⟩∧l=.nil:=by
 unfold okOne Its.one at h
 simp [okI] at h
 exact ⟨h.1,h.2.1,len0 h.2.2⟩
theorem ok_1 {n t : ByteArray} {l : Its} (h : okOne (1,n,t,l)=true) : n=⟨#[]⟩∧l=.nil:=by
 unfold okOne Its.one at h
 simp [okI] at h
 exact ⟨h.1,len0 h.2⟩
theorem ok_2 {n t : ByteArray} {l : Its} (h : okOne (2,n,t,l)=true) : okI l=true∧n=⟨#[]⟩∧t=⟨#[]⟩:=by
 unfold okOne Its.one at h
 simp [okI] at h
 exact ⟨h.1,h.2.1,h.2.2⟩
theorem ok_kind {k : Int} {n t : ByteArray} {l : Its} (h : okOne (k,n,t,l)=true) : k=0∨k=1∨k=2:=by
 unfold okOne Its.one at h
 simp only [okI,Bool.and_true] at h
 split at h
 · exact .inl ‹_›
 · split at h
   · exact .inr (.inl ‹_›)
   · split at h
     · exact .inr (.inr ‹_›)
     · cases h
theorem rTxt_some {l r : Its} {t : ByteArray} (hk : okI l=true) (h : rTxt l=some (t,r)) : l=.cons 1 ⟨#[]⟩ t .nil r∧okI r=true:=by
 unfold rTxt at h
 cases hn : nxt 1 l with
 | none=>rw [hn] at h;cases h
 | some p =>
   obtain ⟨y,r'⟩:=p
   obtain ⟨h1,h2⟩:=nxt_some hn
   rw [hn] at h
   simp only [Option.some.injEq,Prod.mk.injEq] at h
   obtain ⟨rfl,rfl⟩:=h
   rw [h2] at hk ⊢
   obtain ⟨g1,g2⟩:=okI_cons hk
   obtain ⟨e1,e2⟩:=ok_1 g1
   rw [e1,e2]
   exact ⟨rfl,g2⟩
theorem rNat_some {l r : Its} {t : ByteArray} (hk : okI l=true) (h : rNat l=some (t,r)) : l=.cons 0 t ⟨#[]⟩ .nil r∧okI r=true∧valid t=true:=by
 unfold rNat at h
 cases hn : nxt 0 l with
 | none=>rw [hn] at h;cases h
 | some p =>
   obtain ⟨y,r'⟩:=p
   obtain ⟨h1,h2⟩:=nxt_some hn
   rw [hn] at h
   simp only [Option.some.injEq,Prod.mk.injEq] at h
   obtain ⟨rfl,rfl⟩:=h
   rw [h2] at hk ⊢
   obtain ⟨g1,g2⟩:=okI_cons hk
   obtain ⟨e0,e1,e2⟩:=ok_0 g1
   rw [e1,e2]
   exact ⟨rfl,g2,e0⟩
theorem rLst_some {l r b : Its} (hk : okI l=true) (h : rLst l=some (b,r)) : l=.cons 2 ⟨#[]⟩ ⟨#[]⟩ b r∧okI r=true∧okI b=true:=by
 unfold rLst at h
 cases hn : nxt 2 l with
 | none=>rw [hn] at h;cases h
 | some p =>
   obtain ⟨y,r'⟩:=p
   obtain ⟨h1,h2⟩:=nxt_some hn
   rw [hn] at h
   simp only [Option.some.injEq,Prod.mk.injEq] at h
   obtain ⟨rfl,rfl⟩:=h
   rw [h2] at hk ⊢
   obtain ⟨g1,g2⟩:=okI_cons hk
   obtain ⟨e0,e1,e2⟩:=ok_2 g1
   rw [e1,e2]
   exact ⟨rfl,g2,e0⟩
theorem rEnd_some {l : Its} {u : Unit} (h : rEnd l=some u) : l=.nil:=by
 unfold rEnd at h
 split at h
 · exact len0 ‹_›
 · cases h
theorem toI_some {l : Its} {neg : Bool} {a : ByteArray} (hk : okI l=true) (h : toI l=some (neg,a)) : l=.cons 0 (if neg=true then B 1 else ⟨#[]⟩) ⟨#[]⟩ .nil (.cons 0 a ⟨#[]⟩ .nil .nil)∧valid a=true∧(neg=true→a.size≠0):=by
 unfold toI at h
 split at h
 · rename_i k s t1 l1 k2 a' t2 l2
   split at h
   · rename_i hkk
     obtain ⟨rfl,rfl⟩:=hkk
     obtain ⟨g1,g2⟩:=okI_cons hk
     obtain ⟨g3,_⟩:=okI_cons g2
     obtain ⟨_,e1,e2⟩:=ok_0 g1
     obtain ⟨e0,e3,e4⟩:=ok_0 g3
     subst e1 e2 e3 e4
     split at h
     · rename_i hs
       simp only [Option.some.injEq,Prod.mk.injEq] at h
       obtain ⟨rfl,rfl⟩:=h
       rw [sz0 hs]
       exact ⟨rfl,e0,fun h=>by cases h⟩
     · split at h
       · rename_i hs
         simp only [Option.some.injEq,Prod.mk.injEq] at h
         obtain ⟨rfl,rfl⟩:=h
         obtain ⟨rfl,h2⟩:=hs
         exact ⟨rfl,e0,fun _=>h2⟩
       · cases h
   · cases h
 · cases h
theorem smI_some {neg : Bool} {a : ByteArray} {z : Int} (hv : valid a=true) (hn : neg=true→a.size≠0) (h : smI neg a=some z) : decide (z < 0)=neg∧B z.natAbs=a∧-9223372036854775808≤z∧z≤9223372036854775807:=by
 unfold smI at h
 split at h
 · split at h
   · rename_i hneg
     subst hneg
     split at h
     · simp only [Option.some.injEq] at h
       subst h
       have hb:=B_num hv
       have h0 : num a≠0:=by
        intro e
        rw [e] at hb
        exact hn rfl (by rw [← hb];decide)
       refine ⟨by simp;omega,?_,by omega,by omega⟩
       rw [show (-(num a : Int)).natAbs=num a by omega]
       exact hb
     · cases h
   · rename_i hneg
     split at h
     · simp only [Option.some.injEq] at h
       subst h
       refine ⟨by cases neg<;>simp_all,?_,by omega,by omega⟩
       rw [show ((num a : Int)).natAbs=num a by omega]
       exact B_num hv
     · cases h
 · cases h
theorem numO_some {l : Its} {z : Int} (hk : okI l=true) (h : numO l=some z) : l=intIt z∧-9223372036854775808≤z∧z≤9223372036854775807:=by
 unfold numO at h
 cases ht : toI l with
 | none=>rw [ht] at h;cases h
 | some p =>
   obtain ⟨neg,a⟩:=p
   rw [ht] at h
   obtain ⟨h1,h2,h3⟩:=toI_some hk ht
   obtain ⟨g1,g2,g3⟩:=smI_some h2 h3 h
   refine ⟨?_,g3⟩
   unfold intIt
   rw [g1,g2]
   exact h1
theorem rNum_some {l r : Its} {z : Int} (hk : okI l=true) (h : rNum l=some (z,r)) : l=.cons 2 ⟨#[]⟩ ⟨#[]⟩ (intIt z) r∧okI r=true∧-9223372036854775808≤z∧z≤9223372036854775807:=by
 unfold rNum at h
 cases hl : rLst l with
 | none=>rw [hl] at h;cases h
 | some p =>
   obtain ⟨b,r'⟩:=p
   rw [hl] at h
   obtain ⟨h1,h2,h3⟩:=rLst_some hk hl
   dsimp only at h
   cases hn : numO b with
   | none=>rw [hn] at h;cases h
   | some z' =>
     rw [hn] at h
     simp only [Option.some.injEq,Prod.mk.injEq] at h
     obtain ⟨rfl,rfl⟩:=h
     obtain ⟨g1,g2⟩:=numO_some h3 hn
     rw [g1] at h1
     exact ⟨h1,h2,g2⟩
theorem natsO_some {l : Its} {a : List ByteArray} (hk : okI l=true) (h : natsO l=some a) : l=natsI a:=by
 induction l generalizing a with
 | nil=>simp only [natsO,Option.some.injEq] at h;subst h;rfl
 | cons k n t b r _ ih =>
   unfold natsO at h
   split at h
   · rename_i hk0
     subst hk0
     obtain ⟨g1,g2⟩:=okI_cons hk
     obtain ⟨_,e1,e2⟩:=ok_0 g1
     cases hr : natsO r with
     | none=>rw [hr] at h;cases h
     | some a' =>
       rw [hr] at h
       simp only [Option.some.injEq] at h
       subst h
       rw [e1,e2,ih g2 hr]
       rfl
   · cases h
theorem heldT_some {iss sch : ByteArray} {ver : Int} {att : List ByteArray} {l : Its} {x : Hz} (hk : okI l=true) (h : heldT iss sch ver att l=some x) :
  x.iss=iss∧x.sch=sch∧x.ver=ver∧x.att=att∧(-9223372036854775808≤x.ep∧x.ep≤9223372036854775807)∧l=.cons 0 x.a ⟨#[]⟩ .nil (.cons 0 x.e ⟨#[]⟩ .nil (.cons 0 x.v ⟨#[]⟩ .nil (.cons 2 ⟨#[]⟩ ⟨#[]⟩ (intIt x.ep) (.cons 0 x.wit ⟨#[]⟩ .nil .nil))))∧[x.a,x.e,x.v,x.wit].all valid=true:=by
 unfold heldT at h
 split at h
 · cases h
 · rename_i a l1 h1
   obtain ⟨e1,k1,v1⟩:=rNat_some hk h1
   split at h
   · cases h
   · rename_i e l2 h2
     obtain ⟨e2,k2,v2⟩:=rNat_some k1 h2
     split at h
     · cases h
     · rename_i v l3 h3
       obtain ⟨e3,k3,v3⟩:=rNat_some k2 h3
       split at h
       · cases h
       · rename_i ep l4 h4
         obtain ⟨e4,k4,b4⟩:=rNum_some k3 h4
         split at h
         · cases h
         · rename_i wit l5 h5
           obtain ⟨e5,k5,v5⟩:=rNat_some k4 h5
           split at h
           · cases h
           · rename_i u h6
             have e6:=rEnd_some h6
             simp only [Option.some.injEq] at h
             subst h
             subst e1 e2 e3 e4 e5 e6
             exact ⟨rfl,rfl,rfl,rfl,b4,rfl,by simp [v1,v2,v3,v5]⟩
theorem heldC_some {l : Its} {x : Hz} (hk : okI l=true) (h : heldC l=some x) :
  l=heldL x∧(-9223372036854775808≤x.ver∧x.ver≤9223372036854775807)∧(-9223372036854775808≤x.ep∧x.ep≤9223372036854775807):=by
 unfold heldC at h
 split at h
 · cases h
 · rename_i iss l1 h1
   obtain ⟨e1,k1⟩:=rTxt_some hk h1
   split at h
   · cases h
   · rename_i sch l2 h2
     obtain ⟨e2,k2⟩:=rTxt_some k1 h2
     split at h
     · cases h
     · rename_i ver l3 h3
       obtain ⟨e3,k3,b3⟩:=rNum_some k2 h3
       unfold heldM at h
       split at h
       · cases h
       · rename_i b l4 h4
         obtain ⟨e4,k4,k5⟩:=rLst_some k3 h4
         split at h
         · cases h
         · rename_i att h5
           have e5:=natsO_some k5 h5
           obtain ⟨g1,g2,g3,g4,g5,g6,g7⟩:=heldT_some k4 h
           obtain ⟨xi,xs,xv,xa,xa',xe,xvv,xep,xw⟩:=x
           dsimp only at g1 g2 g3 g4 g5 g6
           subst g1 g2 g3 g4
           subst e1 e2 e3 e4 e5 g6
           exact ⟨rfl,b3,g5⟩
theorem rHeld_some {l r : Its} {x : Hz} (hk : okI l=true) (h : rHeld l=some (x,r)) :
  l=.cons 2 ⟨#[]⟩ ⟨#[]⟩ (heldL x) r∧okI r=true∧(-9223372036854775808≤x.ver∧x.ver≤9223372036854775807)∧(-9223372036854775808≤x.ep∧x.ep≤9223372036854775807):=by
 unfold rHeld at h
 cases hl : rLst l with
 | none=>rw [hl] at h;cases h
 | some p =>
   obtain ⟨b,r'⟩:=p
   rw [hl] at h
   obtain ⟨h1,h2,h3⟩:=rLst_some hk hl
   dsimp only at h
   cases hn : heldC b with
   | none=>rw [hn] at h;cases h
   | some x' =>
     rw [hn] at h
     simp only [Option.some.injEq,Prod.mk.injEq] at h
     obtain ⟨rfl,rfl⟩:=h
     obtain ⟨g1,g2,g3⟩:=heldC_some h3 hn
     rw [g1] at h1
     exact ⟨h1,h2,g2,g3⟩
theorem usedO_some {l : Its} {t : ByteArray} {p q : Int} (hk : okI l=true) (h : usedO l=some (t,p,q)) : l=usedL t p q∧(-9223372036854775808≤p∧p≤9223372036854775807)∧(-9223372036854775808≤q∧q≤9223372036854775807):=by
 unfold usedO at h
 split at h
 · cases h
 · rename_i a1 l1 h1
   obtain ⟨e1,k1⟩:=rTxt_some hk h1
   split at h
   · cases h
   · rename_i a2 l2 h2
     obtain ⟨e2,k2,b2⟩:=rNum_some k1 h2
     split at h
     · cases h
     · rename_i a3 l3 h3
       obtain ⟨e3,k3,b3⟩:=rNum_some k2 h3
       split at h
       · cases h
       · rename_i u h4
         have e4:=rEnd_some h4
         simp only [Option.some.injEq,Prod.mk.injEq] at h
         obtain ⟨rfl,rfl,rfl⟩:=h
         subst e1 e2 e3 e4
         exact ⟨rfl,b2,b3⟩
theorem E0_sz : (E0 : ByteArray).size=0:=by decide
theorem rd_okN : ∀ (N : Nat) (s : List UInt8) (lists : Nat),s.length≤N→(∀ l,rdA lists s=.ok l→okI l=true∧l.size≤s.length)∧(∀ y r,rdO lists s=.ok (y,r)→okOne y=true∧y.2.2.2.size+r.length < s.length)
 | N,s,lists,hN=>by
   have hO : ∀ y r,rdO lists s=.ok (y,r)→okOne y=true∧y.2.2.2.size+r.length < s.length:=by
    intro y r h
    have hrl:=rd1_len h
    refine ⟨?_,?_⟩ <;>
    · unfold rdO at h
      cases s with
      | nil=>simp [rd1] at h
      | cons b s =>
        simp only [rd1] at h
        split at h
        · cases h
        · split at h
          · cases h
          · cases hs : szS 5 0 s with
            | none=>rw [hs] at h;cases h
            | some x =>
              have hl:=szS_len (n:=x.1) (r:=x.2) hs
              rw [hs] at h
              dsimp only at h
              split at h
              · cases h
              · rename_i hge
                split at h
                · split at h
                  · rename_i hv
                    injection h with h
                    injection h with h1 h2
                    subst h1
                    first
                     | (unfold okOne Its.one;simp [okI,hv,Its.len,E0_sz])
                     | (simp only [Its.size,Nat.zero_add];exact hrl)
                  · cases h
                · split at h
                  · injection h with h
                    injection h with h1 h2
                    subst h1
                    first
                     | (unfold okOne Its.one;simp [okI,Its.len,E0_sz])
                     | (simp only [Its.size,Nat.zero_add];exact hrl)
                  · cases hr : rdA (lists+1) (x.2.take x.1) with
                    | err e=>rw [hr] at h;cases h
                    | ok l =>
                      rw [hr] at h
                      injection h with h
                      injection h with h1 h2
                      subst h1
                      have hlt : (x.2.take x.1).length < (b::s).length:=by rw [List.length_take,List.length_cons];omega
                      have ih:=(rd_okN (N - 1) (x.2.take x.1) (lists+1) (by omega)).1 l hr
                      first
                       | (unfold okOne Its.one;simp [okI,ih.1,E0_sz];done)
                       | (have h3:=ih.2
                          rw [List.length_take] at h3
                          rw [← h2,List.length_drop,List.length_cons]
                          show l.size+_ < _
                          omega)
   refine ⟨?_,hO⟩
   intro l h
   by_cases hs : s=[]
   · subst hs
     rw [rdA_nil] at h
     injection h with h
     subst h
     exact ⟨rfl,Nat.le_refl _⟩
   · rw [rdA_cons lists hs] at h
     cases hr : rdO lists s with
     | err e=>rw [hr] at h;cases h
     | ok y =>
       obtain ⟨y,r⟩:=y
       rw [hr] at h
       dsimp only at h
       obtain ⟨h1,h2⟩:=hO y r hr
       cases ha : rdA lists r with
       | err e=>rw [ha] at h;cases h
       | ok l' =>
         rw [ha] at h
         injection h with h
         subst h
         obtain ⟨g1,g2⟩:=(rd_okN (N - 1) r lists (by omega)).1 l' ha
         refine ⟨?_,by simp only [Its.size];omega⟩
         unfold okOne Its.one at h1
         simp only [okI,Bool.and_true] at h1
         simp only [okI,Bool.and_eq_true]
         exact ⟨h1,g1⟩
termination_by N=>N
decreasing_by
 all_goals
  have : 0 < s.length:=by first | (cases s<;>simp_all) | (have:=List.length_pos_iff.2 hs;omega)
  omega
theorem dec_ok {s : ByteArray} {y : Its.One} (h : decS s=.ok y) : okOne y=true∧y.2.2.2.size≤s.size:=by
 unfold decS at h
 split at h
 · cases h
 · cases hr : rdO 0 s.data.toList with
   | err e=>rw [hr] at h;cases h
   | ok x =>
     obtain ⟨y',r⟩:=x
     rw [hr] at h
     dsimp only at h
     split at h
     · injection h with h
       subst h
       obtain ⟨h1,h2⟩:=(rd_okN _ _ 0 (Nat.le_refl _)).2 y' r hr
       rw [Array.length_toList] at h2
       exact ⟨h1,Nat.le_trans (Nat.le_add_right _ _) (Nat.le_of_lt h2)⟩
     · cases h
end Go.Proofs.YtjhlddlocpkhkaaGreat
