/- The walks of package integer. Package integer: the contracts over integers. Package integer: Of at 0 and 1; the extended algorithm. Package integer: the closure of the extended algorithm. Package integer: the extended algorithm at 7 and 15. -/
import Derived.Test.YtiacajjpkncomaaGreatDoorExBM
import Derived.Deep.DeepCutAuto
import Derived.Deep.CutBlock
namespace Go.Proofs.YtiacajjpkncomaaGreatDoor
open Go.RowKit
set_option maxRecDepth 100000
set_option linter.unusedVariables false
set_option maxHeartbeats 400000
theorem integer_made (s:Bool) (a:ByteArray) (w:World) :
  Calls Tryz.prog 145 #[.bool s,.string a] w fun e w'=>e=.returned (.agg #[.bool (s&&!a.toList.isEmpty),.string a])∧Below w.heap.size w w':=by
 cases s
 · go_enter Tryz.func145, Tryz.ntmps145
   go_wp2_with fail;exact bodyPost_ret (v:=.agg #[.bool false,.string a]) (by simp [results,Tryz.results145,go_sem]) rfl ⟨rfl,(Below.refl _ _).alloc (Nat.le_refl _) _⟩
 · go_enter Tryz.func145, Tryz.ntmps145
   go_wp2_with fail;exact bodyPost_ret (v:=.agg #[.bool (!a.toList.isEmpty),.string a]) (by simp [results,Tryz.results145,go_sem]) rfl ⟨rfl,(Below.refl _ _).alloc (Nat.le_refl _) _⟩
theorem integer_Valid (s:Bool) (a:ByteArray) (w:World) :
  Calls Tryz.prog 137 #[.agg #[.bool s,.string a]] w fun e w'=>e=.returned (.bool (valid a&&!(s&&a.toList.isEmpty)))∧Below w.heap.size w w':=by
 have F0:=Lib.hid (show Below w.heap.size w (w.alloc (.cells #[.bool s,.string a] 88)) from (Below.refl _ _).alloc (Nat.le_refl _) _)
 cases hv:valid a
 · go_enter Tryz.func137, Tryz.ntmps137
   go_wp2_with (go_at_call 46;refine (natural_Valid _ _).mono ?_;rintro e w' ⟨rfl,rfl⟩);go_ret;exact ⟨rfl,F0.out⟩
 · cases s
   · go_enter Tryz.func137, Tryz.ntmps137
     go_wp2_with (go_at_call 46;refine (natural_Valid _ _).mono ?_;rintro e w' ⟨rfl,rfl⟩);go_ret;exact ⟨rfl,F0.out⟩
   · go_enter Tryz.func137, Tryz.ntmps137
     go_wp2_with (go_at_call 46;refine (natural_Valid _ _).mono ?_;rintro e w' ⟨rfl,rfl⟩);go_ret;exact ⟨rfl,F0.out⟩
def IntOk (s:Bool) (n:Nat):Prop:=n<lim∧(s&&(B n).toList.isEmpty)=false
theorem integer_Valid' (s:Bool) (n:Nat) (w:World) (h:Hid (IntOk s n)) :
  Calls Tryz.prog 137 #[.agg #[.bool s,.string (B n)]] w fun e w'=>e=.returned (.bool true)∧Below w.heap.size w w':=by
 have:=integer_Valid s (B n) w;rw [valid_B h.out.1,h.out.2] at this;exact this
theorem integer_both (s t:Bool) (n k:Nat) (w:World) (h1:Hid (IntOk s n)) (h2:Hid (IntOk t k)) :
  Calls Tryz.prog 183 #[.agg #[.bool s,.string (B n)],.agg #[.bool t,.string (B k)]] w fun e w'=>e=.returned (.bool true)∧Below w.heap.size w w':=by
 have F0:=Lib.hid (show Below w.heap.size w ((w.alloc (.cells #[.bool s,.string (B n)] 88)).alloc (.cells #[.bool t,.string (B k)] 88)) from ((Below.refl _ _).alloc (Nat.le_refl _) _).alloc (by simp) _)
 go_enter Tryz.func183, Tryz.ntmps183
 go_wp2_with (first|(go_at_call 137;(with_reducible refine (integer_Valid' s n _ h1).mono ?_);rintro e w1 ⟨rfl,hb1⟩;have hcw1:=(bcell hb1).1;have hfw1:=(bcell hb1).2;have hs1:=hb1.size;have hq1:w.heap.size<w1.heap.size:=by { simp at hs1;omega };have hq2:w.heap.size+1<w1.heap.size:=by { simp at hs1;omega })|(go_at_call 137;(with_reducible refine (integer_Valid' t k _ h2).mono ?_);rintro e w2 ⟨rfl,hb2⟩));go_ret;exact ⟨rfl,below2 (below2 F0.out hb1) hb2⟩
theorem integer_Neg (s:Bool) (n:Nat) (w:World) (h1:Hid (IntOk s n)) :
  Calls Tryz.prog 184 #[.agg #[.bool s,.string (B n)]] w fun e w'=>e=.returned (.agg #[.bool (!s&&!(B n).toList.isEmpty),.string (B n)])∧Below w.heap.size w w':=by
 go_enter Tryz.func184, Tryz.ntmps184
 go_wp2_with (first|(go_at_call 137;(with_reducible refine (integer_Valid' s n _ h1).mono ?_);rintro e w1 ⟨rfl,hb1⟩;have hcw1:=(bcell hb1).1;have hfw1:=(bcell hb1).2;have hs1:=hb1.size;have hq1:w.heap.size<w1.heap.size:=by { simp at hs1;omega };have hq2:w.heap.size+1<w1.heap.size:=by { simp at hs1;omega })|(go_at_call 145;(with_reducible refine (integer_made _ _ _).mono ?_);rintro e w2 ⟨rfl,hb2⟩;have hcw2:=(bcell hb2).1;have hs2:=hb2.size;have hfw2:=(bcell hb2).2;have hq3:w.heap.size<w2.heap.size:=by { omega };have hq4:w.heap.size+1<w2.heap.size:=by { omega }));exact bodyPost_ret (v:=.agg #[.bool (!s&&!(B n).toList.isEmpty),.string (B n)]) (by simp [results,Tryz.results184,go_sem,hcw2,hcw1,hq2]) rfl ⟨rfl,((below2 (below2 (((Below.refl _ _).alloc (Nat.le_refl _) _).alloc (by simp) _) hb1) hb2).setCell (by simp) _).setCell (by simp) _⟩
theorem integer_From (n:Nat) (w:World) (hn:Hid (n<lim)) :
  Calls Tryz.prog 98 #[.string (B n)] w fun e w'=>e=.returned (.agg #[.bool false,.string (B n)])∧Below w.heap.size w w':=by
 have hv:=valid_B hn.out
 go_enter Tryz.func98, Tryz.ntmps98
 go_wp2_with (first|(go_at_call 46;refine (natural_Valid _ _).mono ?_;rintro e w' ⟨rfl,rfl⟩)|(go_at_call 145;(with_reducible refine (integer_made _ _ _).mono ?_);rintro e w2 ⟨rfl,hb2⟩;have hcw2:=(bcell hb2).1;have hfw2:=(bcell hb2).2;have hs2:=hb2.size;have hq3:w.heap.size<w2.heap.size:=by { simp at hs2;omega }));exact bodyPost_ret (v:=.agg #[.bool false,.string (B n)]) (by simp [results,Tryz.results98,go_sem,hcw2]) rfl ⟨rfl,((below2 ((Below.refl _ _).alloc (Nat.le_refl _) _) hb2).setCell (by simp) _).setCell (by simp) _⟩
theorem natural_Mul' (x y:Nat) (w:World) (hx:x<lim) (hy:y<lim) (hxy:x*y<lim) :
  Calls Tryz.prog 51 #[.string (B x),.string (B y)] w fun e w'=>e=.returned (.tuple #[.string (B (x*y)),.int .i64 0])∧Below w.heap.size w w':=by
 have:=natural_Mul (B x) (B y) w
 have e:natMul (B x) (B y)=(B (x*y),0):=by
  unfold natMul fitted;rw [valid_B hx,valid_B hy,num_B,num_B,if_pos hxy];rfl
 rw [e] at this;exact this
theorem natural_Add' (x y:Nat) (w:World) (hx:x<lim) (hy:y<lim) (hxy:x+y<lim) :
  Calls Tryz.prog 23 #[.string (B x),.string (B y)] w fun e w'=>e=.returned (.tuple #[.string (B (x+y)),.int .i64 0])∧Below w.heap.size w w':=by
 have:=natural_Add (B x) (B y) w
 have e:natAdd (B x) (B y)=(B (x+y),0):=by
  unfold natAdd fitted;rw [valid_B hx,valid_B hy,num_B,num_B,if_pos hxy];rfl
 rw [e] at this;exact this
set_option maxHeartbeats 1000000 in
theorem integer_Mul (s t:Bool) (n k:Nat) (w:World) (h1:Hid (IntOk s n)) (h2:Hid (IntOk t k)) (h3:n*k<lim) :
  Calls Tryz.prog 161 #[.agg #[.bool s,.string (B n)],.agg #[.bool t,.string (B k)]] w fun e w'=>e=.returned (.tuple #[.agg #[.bool ((s != t)&&!(B (n*k)).toList.isEmpty),.string (B (n*k))],.int .i64 0])∧Below w.heap.size w w':=by
 have HM:=Lib.hid (fun w=>natural_Mul' n k w h1.out.1 h2.out.1 h3);generalize n*k=q at *
 have F0:=Lib.hid (show Below w.heap.size w (((w.alloc (.cells #[.bool s,.string (B n)] 88)).alloc (.cells #[.bool t,.string (B k)] 88)).alloc (.cells #[.bool false,.string E0] 88)) from (((Below.refl _ _).alloc (Nat.le_refl _) _).alloc (by simp) _).alloc (by simp;omega) _);clear h3
 go_enter Tryz.func161, Tryz.ntmps161
 go_wp2_with (first|(go_at_call 183;(with_reducible refine (integer_both s t n k _ h1 h2).mono ?_);rintro e w1 ⟨rfl,hb1⟩;have hcw1:=(bcell hb1).1;have hfw1:=(bcell hb1).2;have hs1:=hb1.size;have hq1:w.heap.size+1+1<w1.heap.size:=by { simp at hs1;omega };have hq2:w.heap.size+1<w1.heap.size:=by { omega };have hq3:w.heap.size<w1.heap.size:=by { omega })|(go_at_call 51;refine (HM.out _).mono ?_;rintro e w2 ⟨rfl,hb2⟩;have hcw2:=(bcell hb2).1;have hfw2:=(bcell hb2).2;have hs2:=hb2.size;have hq4:w.heap.size+1+1<w2.heap.size:=by { omega };have hq5:w.heap.size+1<w2.heap.size:=by { omega };have hq6:w.heap.size<w2.heap.size:=by { omega })|(go_at_call 145;(with_reducible refine (integer_made _ _ _).mono ?_);rintro e w3 ⟨rfl,hb3⟩;have hcw3:=(bcell hb3).1;have hfw3:=(bcell hb3).2;have hs3:=hb3.size;have hq7:w.heap.size+1+1<w3.heap.size:=by { omega }));exact bodyPost_ret (v:=.tuple #[.agg #[.bool (!(s==t)&&!(B q).toList.isEmpty),.string (B q)],.int .i64 0]) (by simp [results,Tryz.results161,go_sem,hcw3,hcw2,hcw1,hq1,hq4]) rfl ⟨rfl,((below2 (below2 (below2 F0.out hb1) hb2) hb3).setCell (by simp;omega) _).setCell (by simp;omega) _⟩
set_option maxHeartbeats 1000000 in
theorem integer_Add_same (s:Bool) (n k:Nat) (w:World) (h1:Hid (IntOk s n)) (h2:Hid (IntOk s k)) (h3:n+k<lim) :
  Calls Tryz.prog 163 #[.agg #[.bool s,.string (B n)],.agg #[.bool s,.string (B k)]] w fun e w'=>e=.returned (.tuple #[.agg #[.bool (s&&!(B (n+k)).toList.isEmpty),.string (B (n+k))],.int .i64 0])∧Below w.heap.size w w':=by
 have HM:=Lib.hid (fun w=>natural_Add' n k w h1.out.1 h2.out.1 h3);generalize n+k=q at *
 have F0:=Lib.hid (show Below w.heap.size w (((w.alloc (.cells #[.bool s,.string (B n)] 88)).alloc (.cells #[.bool s,.string (B k)] 88)).alloc (.cells #[.bool false,.string E0] 88)) from (((Below.refl _ _).alloc (Nat.le_refl _) _).alloc (by simp) _).alloc (by simp;omega) _);have hss:(s==s)=true:=by cases s<;>rfl
 clear h3
 go_enter Tryz.func163, Tryz.ntmps163
 go_wp2_with (first|(go_at_call 183;(with_reducible refine (integer_both s s n k _ h1 h2).mono ?_);rintro e w1 ⟨rfl,hb1⟩;have hcw1:=(bcell hb1).1;have hfw1:=(bcell hb1).2;have hs1:=hb1.size;have hq1:w.heap.size+1+1<w1.heap.size:=by { simp at hs1;omega };have hq2:w.heap.size+1<w1.heap.size:=by { omega };have hq3:w.heap.size<w1.heap.size:=by { omega })|(go_at_call 23;refine (HM.out _).mono ?_;rintro e w2 ⟨rfl,hb2⟩;have hcw2:=(bcell hb2).1;have hfw2:=(bcell hb2).2;have hs2:=hb2.size;have hq4:w.heap.size+1+1<w2.heap.size:=by { omega };have hq5:w.heap.size+1<w2.heap.size:=by { omega };have hq6:w.heap.size<w2.heap.size:=by { omega })|(go_at_call 145;(with_reducible refine (integer_made _ _ _).mono ?_);rintro e w3 ⟨rfl,hb3⟩;have hcw3:=(bcell hb3).1;have hfw3:=(bcell hb3).2;have hs3:=hb3.size;have hq7:w.heap.size+1+1<w3.heap.size:=by { omega }));exact bodyPost_ret (v:=.tuple #[.agg #[.bool (s&&!(B q).toList.isEmpty),.string (B q)],.int .i64 0]) (by simp [results,Tryz.results163,go_sem,hcw3,hcw2,hcw1,hq1,hq4]) rfl ⟨rfl,((below2 (below2 (below2 F0.out hb1) hb2) hb3).setCell (by simp;omega) _).setCell (by simp;omega) _⟩
set_option maxHeartbeats 1000000 in
theorem integer_Add_ge (s:Bool) (n k:Nat) (w:World) (h1:Hid (IntOk s n)) (h2:Hid (IntOk (!s) k)) (h3:k≤n) :
  Calls Tryz.prog 163 #[.agg #[.bool s,.string (B n)],.agg #[.bool (!s),.string (B k)]] w fun e w'=>e=.returned (.tuple #[.agg #[.bool (s&&!(B (n-k)).toList.isEmpty),.string (B (n-k))],.int .i64 0])∧Below w.heap.size w w':=by
 have HM:=Lib.hid (fun w=>natural_Sub' n k w h1.out.1 (by omega));have hcm2:decide (natCmp (B n) (B k)<0)=false:=by rw [natCmp_BB h1.out.1 h2.out.1];exact decide_eq_false (fun h=>by have:=cmpN_neg.1 h;omega)
 have hcc:=fun w=>natural_Cmp (B n) (B k) w
 generalize natCmp (B n) (B k)=cv at *
 generalize n-k=q at *
 have HC:=Lib.hid hcc;have F0:=Lib.hid (show Below w.heap.size w (((w.alloc (.cells #[.bool s,.string (B n)] 88)).alloc (.cells #[.bool (!s),.string (B k)] 88)).alloc (.cells #[.bool false,.string E0] 88)) from (((Below.refl _ _).alloc (Nat.le_refl _) _).alloc (by simp) _).alloc (by simp;omega) _);have hss:(s==!s)=false:=by cases s<;>rfl
 have HB:=Lib.hid (fun w=>integer_both s (!s) n k w h1 h2);clear h3 hcc h1 h2
 go_enter Tryz.func163, Tryz.ntmps163
 go_wp2_with (first|(go_at_call 183;(with_reducible refine (HB.out _).mono ?_);rintro e w1 ⟨rfl,hb1⟩;have hcw1:=(bcell hb1).1;have hfw1:=(bcell hb1).2;have hs1:=hb1.size;have hq1:w.heap.size+1+1<w1.heap.size:=by { simp at hs1;omega };have hq2:w.heap.size+1<w1.heap.size:=by { omega };have hq3:w.heap.size<w1.heap.size:=by { omega })|(go_at_call 43;refine (HC.out _).mono ?_;rintro e w' ⟨rfl,rfl⟩)|(go_at_call 42;refine (HM.out _).mono ?_;rintro e w2 ⟨rfl,hb2⟩;have hcw2:=(bcell hb2).1;have hfw2:=(bcell hb2).2;have hs2:=hb2.size;have hq4:w.heap.size+1+1<w2.heap.size:=by { omega };have hq5:w.heap.size+1<w2.heap.size:=by { omega };have hq6:w.heap.size<w2.heap.size:=by { omega })|(go_at_call 145;(with_reducible refine (integer_made _ _ _).mono ?_);rintro e w3 ⟨rfl,hb3⟩;have hcw3:=(bcell hb3).1;have hfw3:=(bcell hb3).2;have hs3:=hb3.size;have hq7:w.heap.size+1+1<w3.heap.size:=by { omega }));exact bodyPost_ret (v:=.tuple #[.agg #[.bool (s&&!(B q).toList.isEmpty),.string (B q)],.int .i64 0]) (by simp [results,Tryz.results163,go_sem,hcw3,hcw2,hcw1,hq1,hq4]) rfl ⟨rfl,((below2 (below2 (below2 F0.out hb1) hb2) hb3).setCell (by simp;omega) _).setCell (by simp;omega) _⟩
theorem swap_cells {s:Bool} {x y:ByteArray} {w w1:World} {o:Obj} {T1 T2:TypeId}
  (hb1:Below (((w.alloc (.cells #[.bool s,.string x] T1)).alloc (.cells #[.bool !s,.string y] T2)).alloc o).heap.size (((w.alloc (.cells #[.bool s,.string x] T1)).alloc (.cells #[.bool !s,.string y] T2)).alloc o) w1) :
  ((((w1.setCell ⟨w.heap.size,0,none⟩ (.bool !s)).setCell ⟨w.heap.size,1,none⟩ (.string y)).setCell ⟨w.heap.size+1,0,none⟩ (.bool s)).setCell ⟨w.heap.size+1,1,none⟩ (.string x)).cell? ⟨w.heap.size,0,none⟩=some (.bool !s) ∧
  ((((w1.setCell ⟨w.heap.size,0,none⟩ (.bool !s)).setCell ⟨w.heap.size,1,none⟩ (.string y)).setCell ⟨w.heap.size+1,0,none⟩ (.bool s)).setCell ⟨w.heap.size+1,1,none⟩ (.string x)).cell? ⟨w.heap.size,1,none⟩=some (.string y) ∧
  ((((w1.setCell ⟨w.heap.size,0,none⟩ (.bool !s)).setCell ⟨w.heap.size,1,none⟩ (.string y)).setCell ⟨w.heap.size+1,0,none⟩ (.bool s)).setCell ⟨w.heap.size+1,1,none⟩ (.string x)).cell? ⟨w.heap.size+1,1,none⟩=some (.string x):=by
 have hcw1:=(bcell hb1).1;have c0:w1.cell? ⟨w.heap.size,0,none⟩=some (.bool s):=by rw [hcw1 _ _ (by simp;omega)];simp [go_sem]
 have c1:w1.cell? ⟨w.heap.size,1,none⟩=some (.string x):=by rw [hcw1 _ _ (by simp;omega)];simp [go_sem]
 have c3:w1.cell? ⟨w.heap.size+1,1,none⟩=some (.string y):=by rw [hcw1 _ _ (by simp)];simp [go_sem]
 refine ⟨?_,?_,?_⟩
 · refine Eq.trans (World.cell?_setCell_other _ _ _ _ (by simp)) ?_
   refine Eq.trans (World.cell?_setCell_other _ _ _ _ (by simp)) ?_;refine Eq.trans (World.cell?_setCell_other _ _ _ _ (by simp)) ?_;exact World.cell?_setCell_same _ _ _ c0
 · refine Eq.trans (World.cell?_setCell_other _ _ _ _ (by simp)) ?_
   refine Eq.trans (World.cell?_setCell_other _ _ _ _ (by simp)) ?_;exact World.cell?_setCell_same _ _ _ (Eq.trans (World.cell?_setCell_other _ _ _ _ (by simp)) c1)
 · refine World.cell?_setCell_same (u:=.string y) _ _ _ ?_
   refine Eq.trans (World.cell?_setCell_other _ _ _ _ (by simp)) ?_;refine Eq.trans (World.cell?_setCell_other _ _ _ _ (by simp)) ?_;refine Eq.trans (World.cell?_setCell_other _ _ _ _ (by simp)) ?_;exact c3
set_option maxHeartbeats 1000000 in
theorem integer_Add_lt (s:Bool) (n k:Nat) (w:World) (h1:Hid (IntOk s n)) (h2:Hid (IntOk (!s) k)) (h3:n<k) :
  Calls Tryz.prog 163 #[.agg #[.bool s,.string (B n)],.agg #[.bool (!s),.string (B k)]] w fun e w'=>e=.returned (.tuple #[.agg #[.bool (!s&&!(B (k-n)).toList.isEmpty),.string (B (k-n))],.int .i64 0])∧Below w.heap.size w w':=by
 have HM:=Lib.hid (fun w=>natural_Sub' k n w h2.out.1 (by omega));have hcm2:decide (natCmp (B n) (B k)<0)=true:=by rw [natCmp_BB h1.out.1 h2.out.1];exact decide_eq_true (cmpN_neg.2 (by omega))
 have hcc:=fun w=>natural_Cmp (B n) (B k) w
 generalize natCmp (B n) (B k)=cv at *
 generalize k-n=q at *
 have HC:=Lib.hid hcc;have F0:=Lib.hid (show Below w.heap.size w (((w.alloc (.cells #[.bool s,.string (B n)] 88)).alloc (.cells #[.bool (!s),.string (B k)] 88)).alloc (.cells #[.bool false,.string E0] 88)) from (((Below.refl _ _).alloc (Nat.le_refl _) _).alloc (by simp) _).alloc (by simp;omega) _);have hss:(s==!s)=false:=by cases s<;>rfl
 have HB:=Lib.hid (fun w=>integer_both s (!s) n k w h1 h2);clear h3 hcc h1 h2
 go_enter Tryz.func163, Tryz.ntmps163
 go_wp2_with (first|(go_at_call 183;(with_reducible refine (HB.out _).mono ?_);rintro e w1 ⟨rfl,hb1⟩;have hcw1:=(bcell hb1).1;have hfw1:=(bcell hb1).2;have hs1:=hb1.size;have hq1:w.heap.size+1+1<w1.heap.size:=by { simp at hs1;omega };have hq2:w.heap.size+1<w1.heap.size:=by { omega };have hq3:w.heap.size<w1.heap.size:=by { omega })|(go_at_call 43;refine (HC.out _).mono ?_;rintro e w' ⟨rfl,rfl⟩;have hcs:=swap_cells hb1;have d0:=hcs.1;have d1:=hcs.2.1;have d3:=hcs.2.2)|(go_at_call 42;refine (HM.out _).mono ?_;rintro e w2 ⟨rfl,hb2⟩;have hcw2:=(bcell hb2).1;have hfw2:=(bcell hb2).2;have hs2:=hb2.size;have hq4:w.heap.size+1+1<w2.heap.size:=by { simp at hs2;omega };have hq5:w.heap.size+1<w2.heap.size:=by { omega };have hq6:w.heap.size<w2.heap.size:=by { omega })|(go_at_call 145;(with_reducible refine (integer_made _ _ _).mono ?_);rintro e w3 ⟨rfl,hb3⟩;have hcw3:=(bcell hb3).1;have hfw3:=(bcell hb3).2;have hs3:=hb3.size;have hq7:w.heap.size+1+1<w3.heap.size:=by { omega }));have F1:=(((((below2 F0.out hb1).setCell (p:=⟨w.heap.size,0,none⟩) (Nat.le_refl _) (.bool !s)).setCell (p:=⟨w.heap.size,1,none⟩) (Nat.le_refl _) (.string (B k))).setCell (p:=⟨w.heap.size+1,0,none⟩) (by simp) (.bool s)).setCell (p:=⟨w.heap.size+1,1,none⟩) (by simp) (.string (B n)))
 exact bodyPost_ret (v:=.tuple #[.agg #[.bool (!s&&!(B q).toList.isEmpty),.string (B q)],.int .i64 0]) (by simp [results,Tryz.results163,go_sem,hcw3,hcw2,hcw1,hq1,hq4]) rfl ⟨rfl,((below2 (below2 F1 hb2) hb3).setCell (by simp;omega) _).setCell (by simp;omega) _⟩
end Go.Proofs.YtiacajjpkncomaaGreatDoor
namespace Go.Proofs.YtiacajjpkncomaaGreatDoor
open Go.RowKit
set_option maxRecDepth 100000
set_option linter.unusedVariables false
set_option maxHeartbeats 400000
def iz (z:Int):Value:=.agg #[.bool (decide (z<0)),.string (B z.natAbs)]
theorem iz_eq (s:Bool) (n:Nat):Value.agg #[.bool (s&&!(B n).toList.isEmpty),.string (B n)]=iz (if s then -(n:Int) else n):=by
 unfold iz;rw [B_isEmpty]
 cases s
 · have:¬ ((n:Int)<0):=by omega
   simp [this]
 · by_cases h:n=0
   · subst h;rfl
   · simp [h];omega
theorem iz_ok (z:Int) (h:z.natAbs<lim):IntOk (decide (z<0)) z.natAbs:=by
 refine ⟨h,?_⟩;rw [B_isEmpty];by_cases hz:z=0
 · subst hz;rfl
 · have:z.natAbs≠0:=by omega
   simp [this]
theorem integer_Add (x y:Int) (w:World) (hx:x.natAbs<lim) (hy:y.natAbs<lim) (hxy:x.natAbs+y.natAbs<lim) :
  Calls Tryz.prog 163 #[iz x,iz y] w fun e w'=>e=.returned (.tuple #[iz (x+y),.int .i64 0])∧Below w.heap.size w w':=by
 have ox:=Lib.hid (iz_ok x hx);have oy:=Lib.hid (iz_ok y hy);unfold iz;by_cases hs:decide (x<0)=decide (y<0)
 · have:=integer_Add_same (decide (x<0)) x.natAbs y.natAbs w ox (hs ▸ oy) hxy
   rw [iz_eq] at this;rw [← hs]
   rw [show (if decide (x<0)=true then -((x.natAbs+y.natAbs:Nat):Int) else ((x.natAbs+y.natAbs:Nat):Int))=x+y by
    rw [decide_eq_decide] at hs;by_cases h:x<0
    · have:=hs.1 h;rw [if_pos (by simp [h])];omega
    · have:¬ y<0:=fun k=>h (hs.2 k);rw [if_neg (by simp [h])];omega] at this
   exact this
 · have hn:decide (y<0)=!decide (x<0):=by
    cases h1:decide (x<0)<;>cases h2:decide (y<0)<;>simp_all
   rw [hn] at oy ⊢;rw [decide_eq_decide] at hs;by_cases hl:x.natAbs<y.natAbs
   · have:=integer_Add_lt (decide (x<0)) x.natAbs y.natAbs w ox oy hl
     rw [iz_eq] at this
     rw [show (if (!decide (x<0))=true then -((y.natAbs-x.natAbs:Nat):Int) else ((y.natAbs-x.natAbs:Nat):Int))=x+y by
      by_cases h:x<0
      · have:¬ y<0:=fun k=>hs ⟨fun _=>k,fun _=>h⟩
        rw [if_neg (by simp [h])];omega
      · have:y<0:=Decidable.by_contra fun k=>hs ⟨fun h'=>absurd h' h,fun h'=>absurd h' k⟩
        rw [if_pos (by simp [h])];omega] at this
     exact this
   · have:=integer_Add_ge (decide (x<0)) x.natAbs y.natAbs w ox oy (by omega)
     rw [iz_eq] at this
     rw [show (if decide (x<0)=true then -((x.natAbs-y.natAbs:Nat):Int) else ((x.natAbs-y.natAbs:Nat):Int))=x+y by
      by_cases h:x<0
      · have:¬ y<0:=fun k=>hs ⟨fun _=>k,fun _=>h⟩
        rw [if_pos (by simp [h])];omega
      · have:y<0:=Decidable.by_contra fun k=>hs ⟨fun h'=>absurd h' h,fun h'=>absurd h' k⟩
        rw [if_neg (by simp [h])];omega] at this
     exact this
theorem integer_Neg' (x:Int) (w:World) (hx:Hid (x.natAbs<lim)) :
  Calls Tryz.prog 184 #[iz x] w fun e w'=>e=.returned (iz (-x))∧Below w.heap.size w w':=by
 have:=integer_Neg (decide (x<0)) x.natAbs w (Lib.hid (iz_ok x hx.out));rw [iz_eq] at this
 rw [show (if (!decide (x<0))=true then -(x.natAbs:Int) else (x.natAbs:Int))=-x by
  by_cases h:x<0
  · rw [if_neg (by simp [h])];omega
  · rw [if_pos (by simp [h])];omega] at this
 exact this
theorem integer_Mul' (x y:Int) (w:World) (hx:x.natAbs<lim) (hy:y.natAbs<lim) (hxy:(x*y).natAbs<lim) :
  Calls Tryz.prog 161 #[iz x,iz y] w fun e w'=>e=.returned (.tuple #[iz (x*y),.int .i64 0])∧Below w.heap.size w w':=by
 have h1:(x*y).natAbs=x.natAbs*y.natAbs:=Int.natAbs_mul x y;have:=integer_Mul (decide (x<0)) (decide (y<0)) x.natAbs y.natAbs w (Lib.hid (iz_ok x hx)) (Lib.hid (iz_ok y hy)) (h1 ▸ hxy);rw [iz_eq] at this
 rw [show (if (decide (x<0) != decide (y<0))=true then -((x.natAbs*y.natAbs:Nat):Int) else ((x.natAbs*y.natAbs:Nat):Int))=x*y by
  rw [← h1];by_cases h:x<0
  · by_cases k:y<0
    · rw [if_neg (by simp [h,k])];have:=Int.mul_pos_of_neg_of_neg h k;omega
    · rw [if_pos (by simp [h,k])];have:=Int.mul_nonpos_of_nonpos_of_nonneg (Int.le_of_lt h) (Int.not_lt.1 k);omega
  · by_cases k:y<0
    · rw [if_pos (by simp [h,k])];have:=Int.mul_nonpos_of_nonneg_of_nonpos (Int.not_lt.1 h) (Int.le_of_lt k);omega
    · rw [if_neg (by simp [h,k])];have:=Int.mul_nonneg (Int.not_lt.1 h) (Int.not_lt.1 k);omega] at this
 exact this
theorem integer_Sub (x y:Int) (w:World) (hx:x.natAbs<lim) (hy:y.natAbs<lim) (hxy:x.natAbs+y.natAbs<lim) :
  Calls Tryz.prog 162 #[iz x,iz y] w fun e w'=>e=.returned (.tuple #[iz (x-y),.int .i64 0])∧Below w.heap.size w w':=by
 have HA:=Lib.hid (fun w=>integer_Add x (-y) w hx (by omega) (by omega));have HN:=Lib.hid (fun w=>integer_Neg' y w (Lib.hid hy));have HB:=Lib.hid (fun w=>integer_both _ _ _ _ w (Lib.hid (iz_ok x hx)) (Lib.hid (iz_ok y hy)));rw [show x+-y=x-y from rfl] at HA;generalize x-y=d at *
 generalize -y=my at *
 unfold iz at *
 generalize decide (x<0)=sx at *
 generalize decide (y<0)=sy at *
 generalize decide (d<0)=sd at *
 generalize decide (my<0)=smy at *
 generalize x.natAbs=nx at *
 generalize y.natAbs=ny at *
 generalize d.natAbs=nd at *
 generalize my.natAbs=nmy at *
 clear hx hy hxy;have F0:=Lib.hid (show Below w.heap.size w (((w.alloc (.cells #[.bool sx,.string (B nx)] 88)).alloc (.cells #[.bool sy,.string (B ny)] 88)).alloc (.cells #[.bool false,.string E0] 88)) from (((Below.refl _ _).alloc (Nat.le_refl _) _).alloc (by simp) _).alloc (by simp;omega) _)
 go_enter Tryz.func162, Tryz.ntmps162
 go_wp2_with (first|(go_at_call 183;(with_reducible refine (HB.out _).mono ?_);rintro e w1 ⟨rfl,hb1⟩;have hcw1:=(bcell hb1).1;have hfw1:=(bcell hb1).2;have hs1:=hb1.size;have hq1:w.heap.size+1+1<w1.heap.size:=by { simp at hs1;omega };have hq2:w.heap.size+1<w1.heap.size:=by { omega };have hq3:w.heap.size<w1.heap.size:=by { omega }));go_region_with (first|(go_at_call 184;(with_reducible refine (HN.out _).mono ?_);rintro e w2 ⟨rfl,hb2⟩;have hb12:Below w1.heap.size w1 w2:=by { first|exact hb2|exact ((Below.refl _ w1).drew).trans hb2 };have hcw2:=(bcell hb12).1;have hfw2:=(bcell hb12).2;have hs2:=hb2.size;have hq4:w.heap.size+1+1<w2.heap.size:=by { first|omega|(simp at hs2;omega) };have hq5:w.heap.size<w2.heap.size:=by { omega })|(go_at_call 163;(with_reducible refine (HA.out _).mono ?_);rintro e w3 ⟨rfl,hb3⟩;have hb13:Below w1.heap.size w1 w3:=by { first|exact below2 hb12 hb3|exact below2 hb12 (((Below.refl _ _).drew).trans hb3) };have hcw3:=(bcell hb13).1;have hfw3:=(bcell hb13).2;have hs3:=hb3.size;have hq6:w.heap.size+1+1<w3.heap.size:=by { first|omega|(simp at hs3;omega) }))
 all_goals
  go_wp2_with fail
  exact bodyPost_ret (v:=.tuple #[.agg #[.bool sd,.string (B nd)],.int .i64 0]) (by simp [results,Tryz.results162,go_sem,hcw3,hcw1,hq1]) rfl ⟨rfl,by
   have b1:=below2 (below2 F0.out hb1) hb13;refine Below.trans b1 ?_
   exact ((Below.refl _ _).setCell (by simp;omega) _).setCell (by simp;omega) _⟩
end Go.Proofs.YtiacajjpkncomaaGreatDoor
namespace Go.Proofs.YtiacajjpkncomaaGreatDoor
open Go.RowKit
set_option maxRecDepth 100000
set_option linter.unusedVariables false
set_option maxHeartbeats 400000
theorem integer_Of0 (w:World) :
  Calls Tryz.prog 159 #[.int .i64 0] w fun e w'=>e=.returned (iz 0)∧Below w.heap.size w w':=by
 have hcv:IntKind.u64.wrap 0=0:=by decide
 go_enter Tryz.func159, Tryz.ntmps159
 go_wp2_with (first|(go_at_call 17;(with_reducible refine (natural_Of' 0 0 _ rfl (by decide)).mono ?_);rintro e w1 ⟨rfl,hb1⟩;have hcw1:=(bcell hb1).1;have hfw1:=(bcell hb1).2;have hs1:=hb1.size;have hq1:w.heap.size<w1.heap.size:=by { simp at hs1;omega })|(go_at_call 145;(with_reducible refine (integer_made _ _ _).mono ?_);rintro e w2 ⟨rfl,hb2⟩;have hcw2:=(bcell hb2).1;have hfw2:=(bcell hb2).2;have hs2:=hb2.size;have hq2:w.heap.size<w2.heap.size:=by { omega }));exact bodyPost_ret (v:=.agg #[.bool false,.string (B 0)]) (by simp [results,Tryz.results159,go_sem,hcw2,hcw1,hq1]) rfl ⟨rfl,((below2 (below2 ((Below.refl _ _).alloc (Nat.le_refl _) _) hb1) hb2).setCell (by simp) _).setCell (by simp) _⟩
theorem integer_Of1 (w:World) :
  Calls Tryz.prog 159 #[.int .i64 1] w fun e w'=>e=.returned (iz 1)∧Below w.heap.size w w':=by
 go_enter Tryz.func159, Tryz.ntmps159
 go_wp2_with (first|(go_at_call 17;(with_reducible refine (natural_Of' 1 1 _ rfl (by decide)).mono ?_);rintro e w1 ⟨rfl,hb1⟩;have hcw1:=(bcell hb1).1;have hfw1:=(bcell hb1).2;have hs1:=hb1.size;have hq1:w.heap.size<w1.heap.size:=by { simp at hs1;omega })|(go_at_call 145;(with_reducible refine (integer_made _ _ _).mono ?_);rintro e w2 ⟨rfl,hb2⟩;have hcw2:=(bcell hb2).1;have hfw2:=(bcell hb2).2;have hs2:=hb2.size;have hq2:w.heap.size<w2.heap.size:=by { omega }));exact bodyPost_ret (v:=.agg #[.bool false,.string (B 1)]) (by simp [results,Tryz.results159,go_sem,hcw2,hcw1,hq1]) rfl ⟨rfl,((below2 (below2 ((Below.refl _ _).alloc (Nat.le_refl _) _) hb1) hb2).setCell (by simp) _).setCell (by simp) _⟩
end Go.Proofs.YtiacajjpkncomaaGreatDoor
namespace Go.Proofs.YtiacajjpkncomaaGreatDoor
open Go.RowKit
set_option maxRecDepth 100000
set_option linter.unusedVariables false
set_option maxHeartbeats 400000
def iz2 (a b:Int):Value:=.agg #[.bool (decide (a<0)),.string (B a.natAbs),.bool (decide (b<0)),.string (B b.natAbs)]
def NextCut (w:World) (sa sb sm:Bool) (na nb nm:Nat) (p:Value) (W:World):Prop :=
 ∃ A:Nat,p=.pointer (some ⟨A,0,none⟩)∧Below w.heap.size w W∧w.heap.size+1<A∧A<W.heap.size ∧
  W.cell? ⟨A,0,none⟩=some (.bool sm)∧W.cell? ⟨A,1,none⟩=some (.string (B nm)) ∧
  W.cell? ⟨w.heap.size,0,none⟩=some (.bool sa)∧W.cell? ⟨w.heap.size,1,none⟩=some (.string (B na)) ∧
  W.cell? ⟨w.heap.size,2,none⟩=some (.bool sb)∧W.cell? ⟨w.heap.size,3,none⟩=some (.string (B nb)) ∧
  (∃ v,W.cell? ⟨w.heap.size+1,0,none⟩=some v)∧(∃ v,W.cell? ⟨w.heap.size+1,1,none⟩=some v)∧(∃ v,W.cell? ⟨w.heap.size+1,2,none⟩=some v)∧(∃ v,W.cell? ⟨w.heap.size+1,3,none⟩=some v) ∧
  (∀ k,W.frozen? ⟨w.heap.size+1,k,none⟩=false)∧(∀ k,W.frozen? ⟨A,k,none⟩=false)
set_option maxHeartbeats 4000000 in
theorem integer_next (a b:Int) (q c:Nat) (w:World) (hc:c<w.heap.size) (hcell:w.cell? ⟨c,0,none⟩=some (.string (B q))) (hq:q<lim) (ha:a.natAbs<lim) (hb:b.natAbs<lim) (hqb:((q:Int)*b).natAbs<lim) (hs:a.natAbs+((q:Int)*b).natAbs<lim) :
  Calls Tryz.prog 160 #[iz2 a b,.pointer (some ⟨c,0,none⟩)] w fun e w'=>e=.returned (iz2 b (a-q*b))∧Below w.heap.size w w':=by
 have HF:=Lib.hid (fun w=>integer_From q w (Lib.hid hq));have HM:=Lib.hid (fun w=>integer_Mul' q b w (by omega) hb hqb);have HS:=Lib.hid (fun w=>integer_Sub a (q*b) w ha hqb hs);generalize (q:Int)*b=m at *
 generalize a-m=d at *
 unfold iz iz2 at *
 rw [show decide ((q:Int)<0)=false from decide_eq_false (by omega),Int.natAbs_natCast] at HM;generalize decide (a<0)=sa at *
 generalize decide (b<0)=sb at *
 generalize decide (m<0)=sm at *
 generalize decide (d<0)=sd at *
 clear hq ha hb hqb hs;generalize a.natAbs=na at *
 generalize b.natAbs=nb at *
 generalize m.natAbs=nm at *
 generalize d.natAbs=nd at *
 go_enter Tryz.func160, Tryz.ntmps160
 go_upto_region 1 with fail
 go_cut [4] (fun p wx=>NextCut w sa sb sm na nb nm p wx)
 case first=>
  have hc1:c<w.heap.size+1:=by omega
  have hc2:c<w.heap.size+1+1:=by omega
  have hc3:¬ c=w.heap.size+1+1:=by omega
  have e0:(((w.alloc (Obj.cells #[Value.bool sa,Value.string (B na),Value.bool sb,Value.string (B nb)] 178)).alloc (Obj.cells #[Value.bool false,Value.string { data:=#[] },Value.bool false,Value.string { data:=#[] }] 178))).heap.size=w.heap.size+1+1:=by simp
  go_region_with (first|(go_at_call 98;(with_reducible refine (HF.out _).mono ?_);rintro e w1 ⟨rfl,hb1⟩;have hcw1:=(bcell hb1).1;have hfw1:=(bcell hb1).2;have hs1:=hb1.size;(simp at hs1);(rw [Nat.add_one_le_iff] at hs1);have hq1:w.heap.size+1<w1.heap.size:=by { omega };have hq2:w.heap.size<w1.heap.size:=by { omega };have k2:w1.cell? ⟨w.heap.size,2,none⟩=some (.bool sb):=by { rw [hcw1 _ _ (by first|(simp;done)|(simp;omega))];simp [go_sem] };have k3:w1.cell? ⟨w.heap.size,3,none⟩=some (.string (B nb)):=by { rw [hcw1 _ _ (by first|(simp;done)|(simp;omega))];simp [go_sem] })|(go_at_call 161;(with_reducible refine (HM.out _).mono ?_);rintro e w2 ⟨rfl,hb2⟩;have hcw2:=(bcell hb2).1;have hfw2:=(bcell hb2).2;have hs2:=hb2.size;(try simp at hs2);(try rw [Nat.add_one_le_iff] at hs2);(first|(have hq6:=Nat.lt_of_lt_of_le hs1 hs2)|(have hq6:=Nat.lt_trans hs1 hs2));have hq3:w.heap.size+1<w2.heap.size:=by { omega };have hq4:w.heap.size<w2.heap.size:=by { omega }))
  all_goals go_wp2_with fail
  all_goals go_meet
  all_goals
   have F0:Below w.heap.size w ((w.alloc (Obj.cells #[Value.bool sa,Value.string (B na),Value.bool sb,Value.string (B nb)] 178)).alloc (Obj.cells #[Value.bool false,Value.string { data:=#[] },Value.bool false,Value.string { data:=#[] }] 178)):=((Below.refl _ _).alloc (Nat.le_refl _) _).alloc (by simp) _
   have B1:Below w.heap.size w w1:=by
    first
     | exact below2 F0 hb1
     | exact below2 F0.drew hb1
     | exact below2 (F0.alloc (by simp;omega) _) hb1
     | exact below2 (F0.alloc (by simp;omega) _).drew hb1
     | exact below2 (F0.drew.alloc (by simp;omega) _) hb1
     | exact below2 (F0.drew.alloc (by simp;omega) _).drew hb1
   have B2:Below w.heap.size w w2:=by
    first
     | exact below2 B1 hb2
     | exact below2 B1.drew hb2
     | exact below2 (B1.alloc (by omega) _) hb2
     | exact below2 (B1.alloc (by omega) _).drew hb2
     | exact below2 (B1.drew.alloc (by simp;omega) _) hb2
   have z0:w2.cell? ⟨w.heap.size,0,none⟩=some (.bool sa):=by simp [go_sem,hcw2,hcw1,hq2]
   have z1:w2.cell? ⟨w.heap.size,1,none⟩=some (.string (B na)):=by simp [go_sem,hcw2,hcw1,hq2]
   have z2:w2.cell? ⟨w.heap.size,2,none⟩=some (.bool sb):=by simp [go_sem,hcw2,hcw1,hq2]
   have z3:w2.cell? ⟨w.heap.size,3,none⟩=some (.string (B nb)):=by simp [go_sem,hcw2,hcw1,hq2]
   have y0:w2.cell? ⟨w.heap.size+1,0,none⟩=some (.bool false):=by simp [go_sem,hcw2,hcw1,hq1,hq2]
   have y1:w2.cell? ⟨w.heap.size+1,1,none⟩=some (.string ⟨#[]⟩):=by simp [go_sem,hcw2,hcw1,hq1,hq2]
   have y2:w2.cell? ⟨w.heap.size+1,2,none⟩=some (.bool false):=by simp [go_sem,hcw2,hcw1,hq1,hq2]
   have y3:w2.cell? ⟨w.heap.size+1,3,none⟩=some (.string ⟨#[]⟩):=by simp [go_sem,hcw2,hcw1,hq1,hq2]
   have x0:∀ k,w2.frozen? ⟨w.heap.size+1,k,none⟩=false:=fun k=>by simp [go_sem,hfw2,hfw1,hq1,hq2]
  all_goals
   refine ⟨_,rfl,?_,?_,?_,?_,?_,?_,?_,?_,?_,⟨.bool false,?_⟩,⟨.string ⟨#[]⟩,?_⟩,⟨.bool false,?_⟩,⟨.string ⟨#[]⟩,?_⟩,fun k=>?_,fun k=>?_⟩
   all_goals
    first
     | exact B2.alloc (by omega) _
     | exact (B2.setCell (by simp;omega) _).setCell (by simp;omega) _
     | exact (B2.setCell (by simp) _).setCell (by simp) _
     | omega
     | (simp;done)
     | (simp;omega)
     | (simp [go_sem,z0,z1,z2,z3,y0,y1,y2,y3,x0,hq3,hq4];done)
     | (simp [go_sem,hcw2,hcw1,hfw2,hfw1,hs1];done)
 case rest =>
  obtain ⟨A,rfl,hbw,hA1,hA2,c1,c2,c3,c4,c5,c6,⟨v0,d0⟩,⟨v1,d1⟩,⟨v2,d2⟩,⟨v3,d3⟩,f1,f2⟩:=hcut;have HBW:=Lib.hid hbw;have hz1:=hbw.size;clear hbw;go_wp2_with (go_at_call 162;(with_reducible refine (HS.out _).mono ?_);rintro e w3 ⟨rfl,hb3⟩;have hcw3:=(bcell hb3).1;have hfw3:=(bcell hb3).2;have hs3:=hb3.size;have hq1:w.heap.size<w3.heap.size:=by { omega };have hq2:w.heap.size+1<w3.heap.size:=by { omega };have hq3:w.heap.size<wc.heap.size:=by { omega };have hq4:w.heap.size+1<wc.heap.size:=by { omega });have g0:w3.cell? ⟨w.heap.size+1,0,none⟩=some v0:=by rw [hcw3 _ _ hq4];exact d0
  have g1:w3.cell? ⟨w.heap.size+1,1,none⟩=some v1:=by rw [hcw3 _ _ hq4];exact d1
  have g2:w3.cell? ⟨w.heap.size+1,2,none⟩=some v2:=by rw [hcw3 _ _ hq4];exact d2
  have g3:w3.cell? ⟨w.heap.size+1,3,none⟩=some v3:=by rw [hcw3 _ _ hq4];exact d3
  clear hcw3 hfw3;exact bodyPost_ret (v:=.agg #[.bool sb,.string (B nb),.bool sd,.string (B nd)]) (by simp [results,Tryz.results160,go_sem,g0,g1,g2,g3,hq2]) rfl ⟨rfl,(((((below2 HBW.out hb3).setCell (by simp) _).setCell (by simp) _).setCell (by simp) _).setCell (by simp) _).alloc (by simp;omega) _⟩
end Go.Proofs.YtiacajjpkncomaaGreatDoor
namespace Go.Proofs.YtiacajjpkncomaaGreatDoor
open Go.RowKit
set_option maxRecDepth 100000
set_option linter.unusedVariables false
set_option maxHeartbeats 400000
theorem integer_Of0' (w:World) :
  Calls Tryz.prog 159 #[.int .i64 0] w fun e w'=>e=.returned (.agg #[.bool false,.string (B 0)])∧Below w.heap.size w w':=integer_Of0 w
theorem integer_Of1' (w:World) :
  Calls Tryz.prog 159 #[.int .i64 1] w fun e w'=>e=.returned (.agg #[.bool false,.string (B 1)])∧Below w.heap.size w w':=integer_Of1 w
def tA (j:Nat):Nat:=[7,15,7,1].getD j 0
def tB (j:Nat):Nat:=[15,7,1,0].getD j 0
def tX (j:Nat):Int:=[1,0,1,-2,15].getD j 0
def tY (j:Nat):Int:=[0,1,0,1,-7].getD j 0
theorem t_step:∀ j,j<3→tB j≠0∧tB j<100∧tA j<100∧tA (j+1)=tB j∧tB (j+1)=tA j%tB j∧tX (j+2)=tX j-((tA j/tB j:Nat):Int)*tX (j+1)∧tY (j+2)=tY j-((tA j/tB j:Nat):Int)*tY (j+1) ∧
  (tX j).natAbs<100∧(tX (j+1)).natAbs<100∧(tY j).natAbs<100∧(tY (j+1)).natAbs<100∧(((tA j/tB j:Nat):Int)*tX (j+1)).natAbs<100∧(((tA j/tB j:Nat):Int)*tY (j+1)).natAbs<100∧tA j/tB j<100:=by decide
theorem small_lim {n:Nat} (h:n<300):n<lim:=Nat.lt_trans h (by decide)
structure At2 (w:World) (g:Nat) (a b:Int):Prop where
 c0:w.cell? ⟨g,0,none⟩=some (.bool (decide (a<0)))
 c1:w.cell? ⟨g,1,none⟩=some (.string (B a.natAbs))
 c2:w.cell? ⟨g,2,none⟩=some (.bool (decide (b<0)))
 c3:w.cell? ⟨g,3,none⟩=some (.string (B b.natAbs))
 fr:∀ k,w.frozen? ⟨g,k,none⟩=false
theorem At2.below {w w':World} {g n:Nat} {a b:Int} (h:At2 w g a b) (hb:Below n w w') (hg:g<n):At2 w' g a b :=
 ⟨(hb.cell (p:=⟨g,0,none⟩) hg).trans h.c0,(hb.cell (p:=⟨g,1,none⟩) hg).trans h.c1,(hb.cell (p:=⟨g,2,none⟩) hg).trans h.c2,(hb.cell (p:=⟨g,3,none⟩) hg).trans h.c3,fun k=>(hb.frozen (p:=⟨g,k,none⟩) hg).trans (h.fr k)⟩
theorem At2.far {w:World} {g:Nat} {a b:Int} (h:At2 w g a b) {p:Addr} (hp:g≠p.block) (v:Value):At2 (w.setCell p v) g a b:=by
 have hn:∀ k,p≠(⟨g,k,none⟩:Addr):=fun k e=>hp (by rw [e])
 exact ⟨(World.cell?_setCell_other w p _ v (hn 0)).trans h.c0,(World.cell?_setCell_other w p _ v (hn 1)).trans h.c1,(World.cell?_setCell_other w p _ v (hn 2)).trans h.c2,(World.cell?_setCell_other w p _ v (hn 3)).trans h.c3,fun k=>by rw [World.frozen?_setCell];exact h.fr k⟩
theorem At2.alloc {w:World} {g:Nat} {a b:Int} (h:At2 w g a b) (hg:g<w.heap.size) (o:Obj):At2 (w.alloc o) g a b :=
 h.below ((Below.refl w.heap.size w).alloc (Nat.le_refl _) o) hg
theorem At2.set {w:World} {g:Nat} {a b:Int} (h:At2 w g a b) (c d:Int) :
  At2 ((((w.setCell ⟨g,0,none⟩ (.bool (decide (c<0)))).setCell ⟨g,1,none⟩ (.string (B c.natAbs))).setCell ⟨g,2,none⟩ (.bool (decide (d<0)))).setCell ⟨g,3,none⟩ (.string (B d.natAbs))) g c d:=by
 refine ⟨?_,?_,?_,?_,fun k=>?_⟩
 · refine Eq.trans (World.cell?_setCell_other _ _ _ _ (by simp)) ?_
   refine Eq.trans (World.cell?_setCell_other _ _ _ _ (by simp)) ?_;refine Eq.trans (World.cell?_setCell_other _ _ _ _ (by simp)) ?_;exact World.cell?_setCell_same _ _ _ h.c0
 · refine Eq.trans (World.cell?_setCell_other _ _ _ _ (by simp)) ?_
   refine Eq.trans (World.cell?_setCell_other _ _ _ _ (by simp)) ?_;exact World.cell?_setCell_same _ _ _ (Eq.trans (World.cell?_setCell_other _ _ _ _ (by simp)) h.c1)
 · refine Eq.trans (World.cell?_setCell_other _ _ _ _ (by simp)) ?_
   exact World.cell?_setCell_same _ _ _ (Eq.trans (World.cell?_setCell_other _ _ _ _ (by simp)) (Eq.trans (World.cell?_setCell_other _ _ _ _ (by simp)) h.c2))
 · exact World.cell?_setCell_same _ _ _ (Eq.trans (World.cell?_setCell_other _ _ _ _ (by simp)) (Eq.trans (World.cell?_setCell_other _ _ _ _ (by simp)) (Eq.trans (World.cell?_setCell_other _ _ _ _ (by simp)) h.c3)))
 · rw [World.frozen?_setCell,World.frozen?_setCell,World.frozen?_setCell,World.frozen?_setCell];exact h.fr k
structure At2s (w:World) (g:Nat) (a b:Nat):Prop where
 c0:w.cell? ⟨g,0,none⟩=some (.string (B a))
 c1:w.cell? ⟨g,1,none⟩=some (.string (B b))
 fr:∀ k,w.frozen? ⟨g,k,none⟩=false
theorem At2s.below {w w':World} {g n a b:Nat} (h:At2s w g a b) (hb:Below n w w') (hg:g<n):At2s w' g a b :=
 ⟨(hb.cell (p:=⟨g,0,none⟩) hg).trans h.c0,(hb.cell (p:=⟨g,1,none⟩) hg).trans h.c1,fun k=>(hb.frozen (p:=⟨g,k,none⟩) hg).trans (h.fr k)⟩
theorem At2s.far {w:World} {g a b:Nat} (h:At2s w g a b) {p:Addr} (hp:g≠p.block) (v:Value):At2s (w.setCell p v) g a b:=by
 have hn:∀ k,p≠(⟨g,k,none⟩:Addr):=fun k e=>hp (by rw [e])
 exact ⟨(World.cell?_setCell_other w p _ v (hn 0)).trans h.c0,(World.cell?_setCell_other w p _ v (hn 1)).trans h.c1,fun k=>by rw [World.frozen?_setCell];exact h.fr k⟩
theorem At2s.set {w:World} {g a b:Nat} (h:At2s w g a b) (c d:Nat):At2s ((w.setCell ⟨g,0,none⟩ (.string (B c))).setCell ⟨g,1,none⟩ (.string (B d))) g c d:=by
 refine ⟨?_,?_,fun k=>?_⟩
 · refine Eq.trans (World.cell?_setCell_other _ _ _ _ (by simp)) ?_
   exact World.cell?_setCell_same _ _ _ h.c0
 · exact World.cell?_setCell_same _ _ _ (Eq.trans (World.cell?_setCell_other _ _ _ _ (by simp)) h.c1)
 · rw [World.frozen?_setCell,World.frozen?_setCell];exact h.fr k
structure Free2 (w:World) (g:Nat):Prop where
 c0:∃ v,w.cell? ⟨g,0,none⟩=some v
 c1:∃ v,w.cell? ⟨g,1,none⟩=some v
 fr:∀ k,w.frozen? ⟨g,k,none⟩=false
theorem Free2.below {w w':World} {g n:Nat} (h:Free2 w g) (hb:Below n w w') (hg:g<n):Free2 w' g :=
 ⟨h.c0.imp fun v h=>(hb.cell (p:=⟨g,0,none⟩) hg).trans h,h.c1.imp fun v h=>(hb.cell (p:=⟨g,1,none⟩) hg).trans h,fun k=>(hb.frozen (p:=⟨g,k,none⟩) hg).trans (h.fr k)⟩
theorem Free2.far {w:World} {g:Nat} (h:Free2 w g) {p:Addr} (hp:g≠p.block) (v:Value):Free2 (w.setCell p v) g:=by
 have hn:∀ k,p≠(⟨g,k,none⟩:Addr):=fun k e=>hp (by rw [e])
 exact ⟨h.c0.imp fun u h=>(World.cell?_setCell_other w p _ v (hn 0)).trans h,h.c1.imp fun u h=>(World.cell?_setCell_other w p _ v (hn 1)).trans h,fun k=>by rw [World.frozen?_setCell];exact h.fr k⟩
def restNum (R:Nat) (w:World):Nat:=match w.cell? ⟨R,1,none⟩ with|some (.string s)=>num s|_=>0
theorem At2s.num {w:World} {g a b:Nat} (h:At2s w g a b):restNum g w=b:=by
 unfold restNum;rw [h.c1];exact num_B b
structure Int0 (w:World) (g:Nat) (s:Bool) (n:Nat):Prop where
 c0:w.cell? ⟨g,0,none⟩=some (.bool s)
 c1:w.cell? ⟨g,1,none⟩=some (.string (B n))
 fr:∀ k,w.frozen? ⟨g,k,none⟩=false
theorem Int0.below {w w':World} {g m:Nat} {s:Bool} {n:Nat} (h:Int0 w g s n) (hb:Below m w w') (hg:g<m):Int0 w' g s n :=
 ⟨(hb.cell (p:=⟨g,0,none⟩) hg).trans h.c0,(hb.cell (p:=⟨g,1,none⟩) hg).trans h.c1,fun k=>(hb.frozen (p:=⟨g,k,none⟩) hg).trans (h.fr k)⟩
theorem Int0.far {w:World} {g:Nat} {s:Bool} {n:Nat} (h:Int0 w g s n) {p:Addr} (hp:g≠p.block) (v:Value):Int0 (w.setCell p v) g s n:=by
 have hn:∀ k,p≠(⟨g,k,none⟩:Addr):=fun k e=>hp (by rw [e])
 exact ⟨(World.cell?_setCell_other w p _ v (hn 0)).trans h.c0,(World.cell?_setCell_other w p _ v (hn 1)).trans h.c1,fun k=>by rw [World.frozen?_setCell];exact h.fr k⟩
theorem Int0.set {w:World} {g:Nat} {s:Bool} {n:Nat} (h:Int0 w g s n) (t:Bool) (m:Nat):Int0 ((w.setCell ⟨g,0,none⟩ (.bool t)).setCell ⟨g,1,none⟩ (.string (B m))) g t m:=by
 refine ⟨?_,?_,fun k=>?_⟩
 · refine Eq.trans (World.cell?_setCell_other _ _ _ _ (by simp)) ?_
   exact World.cell?_setCell_same _ _ _ h.c0
 · exact World.cell?_setCell_same _ _ _ (Eq.trans (World.cell?_setCell_other _ _ _ _ (by simp)) h.c1)
 · rw [World.frozen?_setCell,World.frozen?_setCell];exact h.fr k
structure FinAt (w:World) (X Y:Nat) (s:Bool) (n:Nat) (t:Bool) (m:Nat) (wr:World):Prop where
 x:Int0 wr X s n
 y:Int0 wr Y t m
 o1:Free2 wr w.heap.size
 o2:Free2 wr (w.heap.size+1)
 below:Below w.heap.size w wr
 size:Y<wr.heap.size
theorem FinAt.next {w wr w':World} {X Y:Nat} {s:Bool} {n:Nat} {t:Bool} {m:Nat} (h:FinAt w X Y s n t m wr) (hb:Below wr.heap.size wr w') (h1:X<Y) (h2:w.heap.size+1<X):FinAt w X Y s n t m w':=by
 have hz:=h.size;exact ⟨h.x.below hb (by omega),h.y.below hb (by omega),h.o1.below hb (by omega),h.o2.below hb (by omega),below2 h.below hb,by have:=hb.size;omega⟩
structure ExtAt (w:World) (R X Y j:Nat) (wr:World):Prop where
 rest:At2s wr R (tA j) (tB j)
 x:At2 wr X (tX j) (tX (j+1))
 y:At2 wr Y (tY j) (tY (j+1))
 o1:Free2 wr w.heap.size
 o2:Free2 wr (w.heap.size+1)
 below:Below w.heap.size w wr
 size:Y<wr.heap.size
theorem add_lit (w:World):Calls Tryz.prog 163 #[.agg #[.bool true,.string (B 2)],.agg #[.bool false,.string (B 15)]] w fun e w'=>e=.returned (.tuple #[.agg #[.bool false,.string (B 13)],.int .i64 0])∧Below w.heap.size w w':=by
 have h:=integer_Add (-2) 15 w (small_lim (by decide)) (small_lim (by decide)) (small_lim (by decide));rw [show (-2:Int)+15=13 from rfl] at h;exact h
theorem sub_lit (w:World):Calls Tryz.prog 162 #[.agg #[.bool false,.string (B 1)],.agg #[.bool false,.string (B 7)]] w fun e w'=>e=.returned (.tuple #[.agg #[.bool true,.string (B 6)],.int .i64 0])∧Below w.heap.size w w':=by
 have h:=integer_Sub 1 7 w (small_lim (by decide)) (small_lim (by decide)) (small_lim (by decide));rw [show (1:Int)-7=-6 from rfl] at h;exact h
set_option maxHeartbeats 4000000 in
theorem integer_Extended_7_15 (w:World) :
  Calls Tryz.prog 139 #[.string (B 7),.string (B 15)] w fun e w'=>e=.returned (.tuple #[.string (B 1),iz 13,iz (-6),.int .i64 0])∧Below w.heap.size w w':=by
 have v7:=valid_B (show 7<lim by decide);have v15:=valid_B (show 15<lim by decide);have e15:=B_isEmpty_false (show 15≠0 by decide)
 go_enter Tryz.func139, Tryz.ntmps139
 go_upto_region 6 with (go_at_call 46;refine (natural_Valid _ _).mono ?_;rintro e w' ⟨rfl,rfl⟩)
 have F0:=Lib.hid (show Below w.heap.size w (((w.alloc (Obj.cells #[Value.bool false,Value.string { data:=#[] }] 88)).alloc (Obj.cells #[Value.bool false,Value.string { data:=#[] }] 88)).alloc (Obj.cells #[Value.string (B 7),Value.string (B 15)] 143)) from (((Below.refl _ _).alloc (Nat.le_refl _) _).alloc (by simp) _).alloc (by simp;omega) _);obtain ⟨W0,hW0⟩:∃ W0,(((w.alloc (Obj.cells #[Value.bool false,Value.string { data:=#[] }] 88)).alloc (Obj.cells #[Value.bool false,Value.string { data:=#[] }] 88)).alloc (Obj.cells #[Value.string (B 7),Value.string (B 15)] 143))=W0:=⟨_,rfl⟩;have hz0:W0.heap.size=w.heap.size+1+1+1:=by rw [← hW0];simp
 have g1:Free2 W0 w.heap.size:=by rw [← hW0];exact ⟨⟨_,by simp [go_sem];rfl⟩,⟨_,by simp [go_sem];rfl⟩,fun k=>by simp [go_sem]⟩
 have g2:Free2 W0 (w.heap.size+1):=by rw [← hW0];exact ⟨⟨_,by simp [go_sem];rfl⟩,⟨_,by simp [go_sem];rfl⟩,fun k=>by simp [go_sem]⟩
 have g3:At2s W0 (w.heap.size+1+1) 7 15:=by rw [← hW0];exact ⟨by simp [go_sem],by simp [go_sem],fun k=>by simp [go_sem]⟩
 rw [hW0] at F0 ⊢;clear hW0;obtain ⟨R,hR⟩:∃ R,w.heap.size+1+1=R:=⟨_,rfl⟩;rw [hR] at g3 hz0 ⊢;go_wp2_with fail;refine (integer_Of1' _).mono ?_;rintro e w1 ⟨rfl,hb1⟩;go_wp2_with fail;refine (integer_Of0' _).mono ?_;rintro e w2 ⟨rfl,hb2⟩;go_wp2_with fail;refine (integer_Of0' _).mono ?_;rintro e w3 ⟨rfl,hb3⟩;go_wp2_with fail;refine (integer_Of1' _).mono ?_;rintro e w4 ⟨rfl,hb4⟩;go_wp2_with fail;have hb14:Below W0.heap.size W0 w4:=below2 (below2 (below2 hb1 hb2) hb3) hb4;have hz4:=hb14.size
 have hst:ExtAt w R w4.heap.size (w4.heap.size+1) 0 ((w4.alloc (Obj.cells #[Value.bool false,Value.string (B 1),Value.bool false,Value.string (B 0)] 178)).alloc (Obj.cells #[Value.bool false,Value.string (B 0),Value.bool false,Value.string (B 1)] 178)):=by
  have hbb:Below W0.heap.size W0 ((w4.alloc (Obj.cells #[Value.bool false,Value.string (B 1),Value.bool false,Value.string (B 0)] 178)).alloc (Obj.cells #[Value.bool false,Value.string (B 0),Value.bool false,Value.string (B 1)] 178)):=(hb14.alloc hz4 _).alloc (by simp;omega) _;refine ⟨⟨?_,?_,?_⟩,⟨?_,?_,?_,?_,?_⟩,⟨?_,?_,?_,?_,?_⟩,⟨?_,?_,?_⟩,⟨?_,?_,?_⟩,?_,?_⟩
  · exact (hbb.cell (p:=⟨R,0,none⟩) (by simp;omega)).trans g3.c0
  · exact (hbb.cell (p:=⟨R,1,none⟩) (by simp;omega)).trans g3.c1
  · exact fun k=>(hbb.frozen (p:=⟨R,k,none⟩) (by simp;omega)).trans (g3.fr k)
  · simp [go_sem,tX]
  · simp [go_sem,tX]
  · simp [go_sem,tX]
  · simp [go_sem,tX]
  · intro k;simp [go_sem]
  · simp [go_sem,tY]
  · simp [go_sem,tY]
  · simp [go_sem,tY]
  · simp [go_sem,tY]
  · intro k;simp [go_sem]
  · exact g1.c0.imp fun v h=>(hbb.cell (p:=⟨w.heap.size,0,none⟩) (by simp;omega)).trans h
  · exact g1.c1.imp fun v h=>(hbb.cell (p:=⟨w.heap.size,1,none⟩) (by simp;omega)).trans h
  · exact fun k=>(hbb.frozen (p:=⟨w.heap.size,k,none⟩) (by simp;omega)).trans (g1.fr k)
  · exact g2.c0.imp fun v h=>(hbb.cell (p:=⟨w.heap.size+1,0,none⟩) (by simp;omega)).trans h
  · exact g2.c1.imp fun v h=>(hbb.cell (p:=⟨w.heap.size+1,1,none⟩) (by simp;omega)).trans h
  · exact fun k=>(hbb.frozen (p:=⟨w.heap.size+1,k,none⟩) (by simp;omega)).trans (g2.fr k)
  · exact below2 F0.out hbb
  · simp
 have HST:=Lib.hid hst;obtain ⟨W1,hW1⟩:∃ W1,((w4.alloc (Obj.cells #[Value.bool false,Value.string (B 1),Value.bool false,Value.string (B 0)] 178)).alloc (Obj.cells #[Value.bool false,Value.string (B 0),Value.bool false,Value.string (B 1)] 178))=W1:=⟨_,rfl⟩;obtain ⟨X,hX⟩:∃ X,w4.heap.size=X:=⟨_,rfl⟩;obtain ⟨Y,hY⟩:∃ Y,X+1=Y:=⟨_,rfl⟩;rw [hW1,hX,hY] at HST;rw [hW1,hX,hY];have hRX:R<X:=by omega
 have hXY:X<Y:=by omega
 have hP1:w.heap.size<R:=by omega
 have hP2:w.heap.size+1<R:=by omega
 clear hst hW1 hX hb14 hz4 hb1 hb2 hb3 hb4 g1 g2 g3 F0 hz0 hR hY v7 v15 e15;go_loopw [12] (fun _ wr=>∃ j:Nat,j≤3∧ExtAt w R X Y j wr) (fun _ wr=>restNum R wr)
 case atStart=>exact ⟨0,by omega,HST.out⟩
 case round =>
  obtain ⟨j,hj,hx⟩:=hrel;by_cases hlt:j<3
  · obtain ⟨h1,h2,h3,h4,h5,h6,h7,h8,h9,h10,h11,h12,h13,h14⟩:=t_step j hlt
    have c0:=hx.rest.c0;have c1:=hx.rest.c1;have hfr:=hx.rest.fr;have he:=B_isEmpty_false h1;have HD:=Lib.hid (fun w=>natural_DivMod' (tA j) (tB j) w (by omega) (by omega) (by omega));have HX:=Lib.hid hx;clear hx;obtain ⟨q,hq⟩:∃ q,tA j/tB j=q:=⟨_,rfl⟩;rw [hq] at HD h6 h7 h12 h13 h14;rw [← h5] at HD;have hbs:=Lib.hid (show Y<wr.heap.size from HX.out.size);have HRN:=Lib.hid (HX.out.rest.num);have HBP:=Lib.hid (show tA j%tB j<tB j from Nat.mod_lt _ (by omega));have hyw:=HX.out.size;go_upto_region 11 with (go_at_call 25;refine (HD.out _).mono ?_;rintro e w5 ⟨rfl,hb5⟩;have hcw5:=(bcell hb5).1;have hfw5:=(bcell hb5).2;have hs5:=hb5.size;have hq5:R<w5.heap.size:=by { omega };have hq6:R<wr.heap.size:=by { omega })
    have hb5':=(Below.refl w5.heap.size w5);obtain ⟨Q,hQ⟩:∃ Q,w5.heap.size=Q:=⟨_,rfl⟩;obtain ⟨W5,hW5⟩:∃ W5,(((w5.setCell ⟨R,0,none⟩ (Value.string (B (tB j)))).setCell ⟨R,1,none⟩ (Value.string (B (tA j%tB j)))).alloc (Obj.cells #[Value.string (B q)] 22))=W5:=⟨_,rfl⟩;have hx5:=HX.out.x.below hb5 (by omega);have hy5:=HX.out.y.below hb5 (by omega);have hr5:=(HX.out.rest.below hb5 (by omega)).set (tB j) (tA j%tB j);have ho1:=HX.out.o1.below hb5 (by omega);have ho2:=HX.out.o2.below hb5 (by omega)
    have hbl:Below w.heap.size w W5:=by
     rw [← hW5];exact (((below2 HX.out.below hb5).setCell (by show w.heap.size≤R;omega) _).setCell (by show w.heap.size≤R;omega) _).alloc (by have:=HX.out.below.size;simp;omega) _
    have hz5:W5.heap.size=Q+1:=by rw [← hW5,← hQ];simp
    have ax:At2 W5 X (tX j) (tX (j+1)):=by
     rw [← hW5];exact ((hx5.far (by show X≠R;omega) _).far (by show X≠R;omega) _).alloc (by simp;omega) _
    have ay:At2 W5 Y (tY j) (tY (j+1)):=by
     rw [← hW5];exact ((hy5.far (by show Y≠R;omega) _).far (by show Y≠R;omega) _).alloc (by simp;omega) _
    have ar:At2s W5 R (tB j) (tA j%tB j):=by
     rw [← hW5];exact hr5.below ((Below.refl _ _).alloc (Nat.le_refl _) _) (by simp;omega)
    have a1:Free2 W5 w.heap.size:=by
     rw [← hW5];exact ((ho1.far (by show w.heap.size≠R;omega) _).far (by show w.heap.size≠R;omega) _).below ((Below.refl _ _).alloc (Nat.le_refl _) _) (by simp;omega)
    have a2:Free2 W5 (w.heap.size+1):=by
     rw [← hW5];exact ((ho2.far (by show w.heap.size+1≠R;omega) _).far (by show w.heap.size+1≠R;omega) _).below ((Below.refl _ _).alloc (Nat.le_refl _) _) (by simp;omega)
    have aq:W5.cell? ⟨Q,0,none⟩=some (.string (B q)):=by
     rw [← hW5,← hQ];simp [go_sem]
    have HNX:=Lib.hid (fun w (hc:Q<w.heap.size) hcell=>integer_next (tX j) (tX (j+1)) q Q w hc hcell (small_lim (by omega)) (small_lim (by omega)) (small_lim (by omega)) (small_lim (by omega)) (small_lim (by omega)));have HNY:=Lib.hid (fun w (hc:Q<w.heap.size) hcell=>integer_next (tY j) (tY (j+1)) q Q w hc hcell (small_lim (by omega)) (small_lim (by omega)) (small_lim (by omega)) (small_lim (by omega)) (small_lim (by omega)));rw [← h6] at HNX;rw [← h7] at HNY
    have HX5:Hid (∀ wx,At2 wx X (tX (j+1)) (tX (j+2))→At2 wx Y (tY (j+1)) (tY (j+2))→Below w.heap.size w wx→At2s wx R (tB j) (tA j%tB j)→Free2 wx w.heap.size→Free2 wx (w.heap.size+1)→Y<wx.heap.size→ExtAt w R X Y (j+1) wx):=by
     apply Lib.hid;intro wx i1 i2 i3 i4 i5 i6 i7;exact ⟨by rw [h4,h5];exact i4,i1,i2,i5,i6,i3,i7⟩
    rw [hW5,hQ];unfold iz2 at HNX HNY;have HAR:=Lib.hid ar;have HA1:=Lib.hid a1;have HA2:=Lib.hid a2;have HBL:=Lib.hid hbl;have HAX:=Lib.hid ax;have HAY:=Lib.hid ay;have x0:=ax.c0;have x1:=ax.c1;have x2:=ax.c2;have x3:=ax.c3;have y0:=ay.c0;have y1:=ay.c1;have y2:=ay.c2;have y3:=ay.c3;have xf:=ax.fr;have yf:=ay.fr;clear ar a1 a2 hbl ax ay hx5 hy5 hr5 ho1 ho2 hW5 hb5' HX h1 h2 h3 h4 h5 h6 h7 h8 h9 h10 h11 h12 h13 h14 hq he c0 c1 hfr HD HST;have k1:X<W5.heap.size:=by omega
    have k2:Y<W5.heap.size:=by omega
    have k3:Q<W5.heap.size:=by omega
    clear hb5 hcw5 hfw5 hs5 hq5 hq6 hz5;generalize gsx0:decide (tX j<0)=sx0 at *
    have Gsx0:=Lib.hid gsx0;clear gsx0;generalize gsx1:decide (tX (j+1)<0)=sx1 at *
    have Gsx1:=Lib.hid gsx1;clear gsx1;generalize gsy0:decide (tY j<0)=sy0 at *
    have Gsy0:=Lib.hid gsy0;clear gsy0;generalize gsy1:decide (tY (j+1)<0)=sy1 at *
    have Gsy1:=Lib.hid gsy1;clear gsy1;generalize gnx0:(tX j).natAbs=nx0 at *
    have Gnx0:=Lib.hid gnx0;clear gnx0;generalize gnx1:(tX (j+1)).natAbs=nx1 at *
    have Gnx1:=Lib.hid gnx1;clear gnx1;generalize gny0:(tY j).natAbs=ny0 at *
    have Gny0:=Lib.hid gny0;clear gny0;generalize gny1:(tY (j+1)).natAbs=ny1 at *
    have Gny1:=Lib.hid gny1;clear gny1;obtain ⟨sx2,hsx2⟩:∃ b,decide (tX (j+2)<0)=b:=⟨_,rfl⟩;obtain ⟨nx2,hnx2⟩:∃ b,(tX (j+2)).natAbs=b:=⟨_,rfl⟩;obtain ⟨sy2,hsy2⟩:∃ b,decide (tY (j+2)<0)=b:=⟨_,rfl⟩;obtain ⟨ny2,hny2⟩:∃ b,(tY (j+2)).natAbs=b:=⟨_,rfl⟩;rw [hsx2,hnx2] at HNX;rw [hsy2,hny2] at HNY;have HSX2:=Lib.hid hsx2;have HNX2:=Lib.hid hnx2;have HSY2:=Lib.hid hsy2;have HNY2:=Lib.hid hny2;clear hsx2 hnx2 hsy2 hny2;go_region_with (first|(go_at_call 160;(with_reducible refine (HNX.out _ (by first|exact k3|(simp;exact k3)) (by first|exact aq|(simp;exact aq))).mono ?_);rintro e w6 ⟨rfl,hb6⟩;have hb56:Below W5.heap.size W5 w6:=by { first|exact hb6|exact ((Below.refl _ W5).drew).trans hb6 };have hcw6:=(bcell hb56).1;have hfw6:=(bcell hb56).2;have hs6:=hb56.size;have aq6:w6.cell? ⟨Q,0,none⟩=some (.string (B q)):=by { rw [hcw6 _ _ k3];exact aq };have m1:X<w6.heap.size:=by { omega };have m2:Y<w6.heap.size:=by { omega };have m3:Q<w6.heap.size:=by { omega })|(go_at_call 160;(with_reducible refine (HNY.out _ (by first|exact m3|(simp;exact m3)) (by first|exact aq6|(simp;exact aq6))).mono ?_);rintro e w7 ⟨rfl,hb7⟩;have hb57:Below W5.heap.size W5 w7:=by { first|exact below2 hb56 hb7|exact below2 hb56 (((Below.refl _ _).drew).trans hb7) };have hcw7:=(bcell hb57).1;have hfw7:=(bcell hb57).2;have hs7:=hb57.size;have p1:X<w7.heap.size:=by { omega };have p2:Y<w7.heap.size:=by { omega }))
    all_goals
     go_wp2_with fail;go_roundw
     case rel =>
      have zx:=(HAX.out.below hb57 k1).set (tX (j+1)) (tX (j+2));have zy:=((((HAY.out.below hb57 k2).far (p:=⟨X,0,none⟩) (by show Y≠X;omega) (.bool (decide (tX (j+1)<0)))).far (p:=⟨X,1,none⟩) (by show Y≠X;omega) (.string (B (tX (j+1)).natAbs))).far (p:=⟨X,2,none⟩) (by show Y≠X;omega) (.bool (decide (tX (j+2)<0)))).far (p:=⟨X,3,none⟩) (by show Y≠X;omega) (.string (B (tX (j+2)).natAbs));have zy2:=zy.set (tY (j+1)) (tY (j+2));have zx2:=(((zx.far (p:=⟨Y,0,none⟩) (by show X≠Y;omega) (.bool (decide (tY (j+1)<0)))).far (p:=⟨Y,1,none⟩) (by show X≠Y;omega) (.string (B (tY (j+1)).natAbs))).far (p:=⟨Y,2,none⟩) (by show X≠Y;omega) (.bool (decide (tY (j+2)<0)))).far (p:=⟨Y,3,none⟩) (by show X≠Y;omega) (.string (B (tY (j+2)).natAbs));rw [Gsx1.out,Gnx1.out,HSX2.out,HNX2.out,Gsy1.out,Gny1.out,HSY2.out,HNY2.out] at zx2 zy2;have hbl:=below2 HBL.out hb57;refine ⟨j+1,by omega,HX5.out _ zx2 zy2 ?_ ?_ ?_ ?_ ?_⟩
      · exact (((((((hbl.setCell (by show w.heap.size≤X;omega) _).setCell (by show w.heap.size≤X;omega) _).setCell (by show w.heap.size≤X;omega) _).setCell (by show w.heap.size≤X;omega) _).setCell (by show w.heap.size≤Y;omega) _).setCell (by show w.heap.size≤Y;omega) _).setCell (by show w.heap.size≤Y;omega) _).setCell (by show w.heap.size≤Y;omega) _
      · exact ((((((((HAR.out.below hb57 (by omega)).far (by show R≠X;omega) _).far (by show R≠X;omega) _).far (by show R≠X;omega) _).far (by show R≠X;omega) _).far (by show R≠Y;omega) _).far (by show R≠Y;omega) _).far (by show R≠Y;omega) _).far (by show R≠Y;omega) _
      · exact ((((((((HA1.out.below hb57 (by omega)).far (by show w.heap.size≠X;omega) _).far (by show w.heap.size≠X;omega) _).far (by show w.heap.size≠X;omega) _).far (by show w.heap.size≠X;omega) _).far (by show w.heap.size≠Y;omega) _).far (by show w.heap.size≠Y;omega) _).far (by show w.heap.size≠Y;omega) _).far (by show w.heap.size≠Y;omega) _
      · exact ((((((((HA2.out.below hb57 (by omega)).far (by show w.heap.size+1≠X;omega) _).far (by show w.heap.size+1≠X;omega) _).far (by show w.heap.size+1≠X;omega) _).far (by show w.heap.size+1≠X;omega) _).far (by show w.heap.size+1≠Y;omega) _).far (by show w.heap.size+1≠Y;omega) _).far (by show w.heap.size+1≠Y;omega) _).far (by show w.heap.size+1≠Y;omega) _
      · simp;omega
     case measure =>
      have har:=((((((((HAR.out.below hb57 (by omega)).far (p:=⟨X,0,none⟩) (by show R≠X;omega) (.bool sx1)).far (p:=⟨X,1,none⟩) (by show R≠X;omega) (.string (B nx1))).far (p:=⟨X,2,none⟩) (by show R≠X;omega) (.bool sx2)).far (p:=⟨X,3,none⟩) (by show R≠X;omega) (.string (B nx2))).far (p:=⟨Y,0,none⟩) (by show R≠Y;omega) (.bool sy1)).far (p:=⟨Y,1,none⟩) (by show R≠Y;omega) (.string (B ny1))).far (p:=⟨Y,2,none⟩) (by show R≠Y;omega) (.bool sy2)).far (p:=⟨Y,3,none⟩) (by show R≠Y;omega) (.string (B ny2));rw [har.num,HRN.out];exact HBP.out
  · obtain rfl:j=3:=by omega
    have c0:wr.cell? ⟨R,0,none⟩=some (.string (B 1)):=hx.rest.c0;have c1:wr.cell? ⟨R,1,none⟩=some (.string (B 0)):=hx.rest.c1;have he:=B_isEmpty_true;have hfx:FinAt w X Y true 2 false 1 wr:=⟨⟨hx.x.c0,hx.x.c1,hx.x.fr⟩,⟨hx.y.c0,hx.y.c1,hx.y.fr⟩,hx.o1,hx.o2,hx.below,hx.size⟩;have x0:=hfx.x.c0;have HF:=Lib.hid hfx;have HD1:=Lib.hid (fun w=>natural_DivMod' 15 1 w (by decide) (by decide) (by decide));have HD2:=Lib.hid (fun w=>natural_DivMod' 7 1 w (by decide) (by decide) (by decide));have hz:=hfx.size;have hl1:X<wr.heap.size:=by omega
    clear hx hfx HST;go_upto_region 16 with (first|(go_at_call 25;(with_reducible refine (HD1.out _).mono ?_);rintro e w8 ⟨rfl,hb8⟩;have hs8:=hb8.size;have hl8:X<w8.heap.size:=by { omega })|(go_at_call 25;(with_reducible refine (HD2.out _).mono ?_);rintro e w9 ⟨rfl,hb9⟩;have hs9:=hb9.size;have hl9:X<w9.heap.size:=by { omega }))
    have hf9:=(HF.out.next hb8 hXY (by omega)).next hb9 hXY (by omega);have HF9:=Lib.hid hf9;clear hf9 HF HD1 HD2 hb8 hb9 hs8 hs9 hl8 hl9 hl1 hz c0 c1 x0 he hlt;have HFA:=Lib.hid (fun w=>integer_From 15 w (Lib.hid (small_lim (by decide))));have HFB:=Lib.hid (fun w=>integer_From 7 w (Lib.hid (small_lim (by decide))));have HAD:=Lib.hid add_lit;have HSU:=Lib.hid sub_lit;go_cut [88] (fun _ wx=>FinAt w X Y false 13 false 1 wx)
    case first =>
     have x0:=HF9.out.x.c0;have x1:=HF9.out.x.c1;have xf:=HF9.out.x.fr;have hz:=HF9.out.size;have k1:X<w9.heap.size:=by omega
     go_region_with (first|(go_at_call 98;(with_reducible refine (HFA.out _).mono ?_);rintro e w10 ⟨rfl,hb10⟩;have hb910:Below w9.heap.size w9 w10:=by { first|exact hb10|exact ((Below.refl _ w9).drew).trans hb10 };have hcw10:=(bcell hb910).1;have hfw10:=(bcell hb910).2;have hs10:=hb910.size;have m1:X<w10.heap.size:=by { omega })|(go_at_call 163;(with_reducible refine (HAD.out _).mono ?_);rintro e w11 ⟨rfl,hb11⟩;have hb911:Below w9.heap.size w9 w11:=by { first|exact below2 hb910 hb11|exact below2 hb910 (((Below.refl _ _).drew).trans hb11) };have hcw11:=(bcell hb911).1;have hfw11:=(bcell hb911).2;have hs11:=hb911.size;have m2:X<w11.heap.size:=by { omega }))
     all_goals
      go_wp2_with fail;go_meet;have hf:=HF9.out.next hb911 hXY (by omega);exact ⟨hf.x.set false 13,(hf.y.far (by show Y≠X;omega) _).far (by show Y≠X;omega) _,(hf.o1.far (by show w.heap.size≠X;omega) _).far (by show w.heap.size≠X;omega) _,(hf.o2.far (by show w.heap.size+1≠X;omega) _).far (by show w.heap.size+1≠X;omega) _,(hf.below.setCell (by show w.heap.size≤X;omega) _).setCell (by show w.heap.size≤X;omega) _,by have:=hf.size;simpa using this⟩
    case rest =>
     have HFC:=Lib.hid hcut;clear HF9 hcut;go_upto_region 17 with fail
     go_cut [97] (fun _ wx=>FinAt w X Y false 13 true 6 wx)
     case first =>
      have x0:=HFC.out.y.c0;have x1:=HFC.out.y.c1;have xf:=HFC.out.y.fr;have k1:=HFC.out.size;go_region_with (first|(go_at_call 98;(with_reducible refine (HFB.out _).mono ?_);rintro e w10 ⟨rfl,hb10⟩;have hb910:Below wc.heap.size wc w10:=by { first|exact hb10|exact ((Below.refl _ wc).drew).trans hb10 };have hcw10:=(bcell hb910).1;have hfw10:=(bcell hb910).2;have hs10:=hb910.size;have m1:Y<w10.heap.size:=by { omega })|(go_at_call 162;(with_reducible refine (HSU.out _).mono ?_);rintro e w11 ⟨rfl,hb11⟩;have hb911:Below wc.heap.size wc w11:=by { first|exact below2 hb910 hb11|exact below2 hb910 (((Below.refl _ _).drew).trans hb11) };have hcw11:=(bcell hb911).1;have hfw11:=(bcell hb911).2;have hs11:=hb911.size;have m2:Y<w11.heap.size:=by { omega }))
      all_goals
       go_wp2_with fail;go_meet;have hf:=HFC.out.next hb911 hXY (by omega);exact ⟨(hf.x.far (by show X≠Y;omega) _).far (by show X≠Y;omega) _,hf.y.set true 6,(hf.o1.far (by show w.heap.size≠Y;omega) _).far (by show w.heap.size≠Y;omega) _,(hf.o2.far (by show w.heap.size+1≠Y;omega) _).far (by show w.heap.size+1≠Y;omega) _,(hf.below.setCell (by show w.heap.size≤Y;omega) _).setCell (by show w.heap.size≤Y;omega) _,by have:=hf.size;simpa using this⟩
     case rest =>
      have x0:=hcut.x.c0;have x1:=hcut.x.c1;have y0:=hcut.y.c0;have y1:=hcut.y.c1;obtain ⟨a0,o0⟩:=hcut.o1.c0;obtain ⟨a1,o1⟩:=hcut.o1.c1;obtain ⟨b0,p0⟩:=hcut.o2.c0;obtain ⟨b1,p1⟩:=hcut.o2.c1;have of:=hcut.o1.fr;have pf:=hcut.o2.fr;have HB:=Lib.hid hcut.below;clear hcut;go_upto_region 18 with fail
      go_region_with (fail)
      all_goals
       go_wp2_with fail
       exact bodyPost_ret (v:=.tuple #[.string (B 1),.agg #[.bool false,.string (B 13)],.agg #[.bool true,.string (B 6)],.int .i64 0]) (by simp [results,Tryz.results139,go_sem,o0,o1,p0,p1]) rfl ⟨rfl,by
        first
         | exact ((((HB.out.setCell (by simp) _).setCell (by simp) _).setCell (by simp) _).setCell (by simp) _)
         | exact (((((HB.out.drew).setCell (by simp) _).setCell (by simp) _).setCell (by simp) _).setCell (by simp) _)
         | exact ((((((HB.out.setCell (by simp) _).setCell (by simp) _).drew).setCell (by simp) _).setCell (by simp) _))⟩
end Go.Proofs.YtiacajjpkncomaaGreatDoor
