/- Package integer: the extended algorithm for any two numbers. -/
import Derived.Test.YtiacajjpkncomaaGreatDoorExII
import Derived.Test.YtiacajjpkncomaaGreatDoorExJ4
namespace Go.Proofs.YtiacajjpkncomaaGreatDoor
open Go.RowKit
set_option maxRecDepth 100000
set_option linter.unusedVariables false
set_option maxHeartbeats 400000
theorem k_lim {n:Nat} (h:n<100000000000000000000):n<lim:=Nat.lt_trans h (by decide)
structure ExtG (a b:Nat) (w:World) (R X Y j:Nat) (wr:World):Prop where
 rest:At2s wr R (gA a b j) (gB a b j)
 x:At2 wr X (gX a b j) (gX a b (j+1))
 y:At2 wr Y (gY a b j) (gY a b (j+1))
 o1:Free2 wr w.heap.size
 o2:Free2 wr (w.heap.size+1)
 below:Below w.heap.size w wr
 size:Y<wr.heap.size
set_option maxHeartbeats 4000000 in
theorem integer_Extended (a b:Nat) (w:World) (ha:a<18446744073709551616) (hb:b<18446744073709551616) (hb0:b≠0) :
  Calls Tryz.prog 139 #[.string (B a),.string (B b)] w fun e w'=>(∃ X Y:Int,e=.returned (.tuple #[.string (B (Nat.gcd a b)),iz X,iz Y,.int .i64 0])∧0≤X∧(a:Int)*X+b*Y=(Nat.gcd a b:Nat)∧X.natAbs≤b)∧Below w.heap.size w w':=by
 have v7:=valid_B (u64_lt_lim ha);have v15:=valid_B (u64_lt_lim hb);have e15:=B_isEmpty_false hb0;obtain ⟨N,hN,hNi⟩:=e_stops a b;have HAB:=Lib.hid (And.intro ha (And.intro hb hb0));have HNI:=Lib.hid hNi;have HNN:=Lib.hid hN;clear ha hb hb0 hN hNi
 go_enter Tryz.func139, Tryz.ntmps139
 go_upto_region 6 with (go_at_call 46;refine (natural_Valid _ _).mono ?_;rintro e w' ⟨rfl,rfl⟩)
 have F0:=Lib.hid (show Below w.heap.size w (((w.alloc (Obj.cells #[Value.bool false,Value.string { data:=#[] }] 88)).alloc (Obj.cells #[Value.bool false,Value.string { data:=#[] }] 88)).alloc (Obj.cells #[Value.string (B a),Value.string (B b)] 143)) from (((Below.refl _ _).alloc (Nat.le_refl _) _).alloc (by simp) _).alloc (by simp;omega) _);obtain ⟨W0,hW0⟩:∃ W0,(((w.alloc (Obj.cells #[Value.bool false,Value.string { data:=#[] }] 88)).alloc (Obj.cells #[Value.bool false,Value.string { data:=#[] }] 88)).alloc (Obj.cells #[Value.string (B a),Value.string (B b)] 143))=W0:=⟨_,rfl⟩;have hz0:W0.heap.size=w.heap.size+1+1+1:=by rw [← hW0];simp
 have g1:Free2 W0 w.heap.size:=by rw [← hW0];exact ⟨⟨_,by simp [go_sem];rfl⟩,⟨_,by simp [go_sem];rfl⟩,fun k=>by simp [go_sem]⟩
 have g2:Free2 W0 (w.heap.size+1):=by rw [← hW0];exact ⟨⟨_,by simp [go_sem];rfl⟩,⟨_,by simp [go_sem];rfl⟩,fun k=>by simp [go_sem]⟩
 have g3:At2s W0 (w.heap.size+1+1) a b:=by rw [← hW0];exact ⟨by simp [go_sem],by simp [go_sem],fun k=>by simp [go_sem]⟩
 rw [hW0] at F0 ⊢;clear hW0;obtain ⟨R,hR⟩:∃ R,w.heap.size+1+1=R:=⟨_,rfl⟩;rw [hR] at g3 hz0 ⊢;go_wp2_with fail;refine (integer_Of1' _).mono ?_;rintro e w1 ⟨rfl,hb1⟩;go_wp2_with fail;refine (integer_Of0' _).mono ?_;rintro e w2 ⟨rfl,hb2⟩;go_wp2_with fail;refine (integer_Of0' _).mono ?_;rintro e w3 ⟨rfl,hb3⟩;go_wp2_with fail;refine (integer_Of1' _).mono ?_;rintro e w4 ⟨rfl,hb4⟩;go_wp2_with fail;have hb14:Below W0.heap.size W0 w4:=below2 (below2 (below2 hb1 hb2) hb3) hb4;have hz4:=hb14.size
 have hst:ExtG a b w R w4.heap.size (w4.heap.size+1) 0 ((w4.alloc (Obj.cells #[Value.bool false,Value.string (B 1),Value.bool false,Value.string (B 0)] 178)).alloc (Obj.cells #[Value.bool false,Value.string (B 0),Value.bool false,Value.string (B 1)] 178)):=by
  have hbb:Below W0.heap.size W0 ((w4.alloc (Obj.cells #[Value.bool false,Value.string (B 1),Value.bool false,Value.string (B 0)] 178)).alloc (Obj.cells #[Value.bool false,Value.string (B 0),Value.bool false,Value.string (B 1)] 178)):=(hb14.alloc hz4 _).alloc (by simp;omega) _;refine ⟨⟨?_,?_,?_⟩,⟨?_,?_,?_,?_,?_⟩,⟨?_,?_,?_,?_,?_⟩,⟨?_,?_,?_⟩,⟨?_,?_,?_⟩,?_,?_⟩
  · exact (hbb.cell (p:=⟨R,0,none⟩) (by simp;omega)).trans g3.c0
  · exact (hbb.cell (p:=⟨R,1,none⟩) (by simp;omega)).trans g3.c1
  · exact fun k=>(hbb.frozen (p:=⟨R,k,none⟩) (by simp;omega)).trans (g3.fr k)
  · simp [go_sem,gX,exS]
  · simp [go_sem,gX,exS]
  · simp [go_sem,gX,exS]
  · simp [go_sem,gX,exS]
  · intro k;simp [go_sem]
  · simp [go_sem,gY,exS]
  · simp [go_sem,gY,exS]
  · simp [go_sem,gY,exS]
  · simp [go_sem,gY,exS]
  · intro k;simp [go_sem]
  · exact g1.c0.imp fun v h=>(hbb.cell (p:=⟨w.heap.size,0,none⟩) (by simp;omega)).trans h
  · exact g1.c1.imp fun v h=>(hbb.cell (p:=⟨w.heap.size,1,none⟩) (by simp;omega)).trans h
  · exact fun k=>(hbb.frozen (p:=⟨w.heap.size,k,none⟩) (by simp;omega)).trans (g1.fr k)
  · exact g2.c0.imp fun v h=>(hbb.cell (p:=⟨w.heap.size+1,0,none⟩) (by simp;omega)).trans h
  · exact g2.c1.imp fun v h=>(hbb.cell (p:=⟨w.heap.size+1,1,none⟩) (by simp;omega)).trans h
  · exact fun k=>(hbb.frozen (p:=⟨w.heap.size+1,k,none⟩) (by simp;omega)).trans (g2.fr k)
  · exact below2 F0.out hbb
  · simp
 have HST:=Lib.hid hst;obtain ⟨W1,hW1⟩:∃ W1,((w4.alloc (Obj.cells #[Value.bool false,Value.string (B 1),Value.bool false,Value.string (B 0)] 178)).alloc (Obj.cells #[Value.bool false,Value.string (B 0),Value.bool false,Value.string (B 1)] 178))=W1:=⟨_,rfl⟩;obtain ⟨X,hX⟩:∃ X,w4.heap.size=X:=⟨_,rfl⟩;obtain ⟨Y,hY⟩:∃ Y,X+1=Y:=⟨_,rfl⟩;rw [hW1,hX,hY] at HST;rw [hW1,hX,hY];have hRX:R<X:=by omega
 have hXY:X<Y:=by omega
 have hP1:w.heap.size<R:=by omega
 have hP2:w.heap.size+1<R:=by omega
 clear hst hW1 hX hb14 hz4 hb1 hb2 hb3 hb4 g1 g2 g3 F0 hz0 hR hY v7 v15 e15;go_loopw [12] (fun _ wr=>∃ j:Nat,j≤N∧ExtG a b w R X Y j wr) (fun _ wr=>restNum R wr)
 case atStart=>exact ⟨0,Nat.zero_le _,HST.out⟩
 case round =>
  obtain ⟨j,hj,hx⟩:=hrel;by_cases hlt:j<N
  · have h1:gB a b j≠0:=HNI.out j hlt
    obtain ⟨h3,h2,h8,h9,h10,h11,h12,h13,h14⟩:=e_bounds (K:=18446744073709551616) HAB.out.1 HAB.out.2.1 (by decide) (fun i hi=>HNI.out i (by omega)) h1;have h4:=gA_succ a b j;have h5:=gB_succ a b j;have h6:=gX_two a b j;have h7:=gY_two a b j;have c0:=hx.rest.c0;have c1:=hx.rest.c1;have hfr:=hx.rest.fr;have he:=B_isEmpty_false h1;have HD:=Lib.hid (fun w=>natural_DivMod' (gA a b j) (gB a b j) w (by omega) (by omega) (by omega));have HX:=Lib.hid hx;clear hx;obtain ⟨q,hq⟩:∃ q,gA a b j/gB a b j=q:=⟨_,rfl⟩;rw [hq] at HD h6 h7 h12 h13 h14;rw [← h5] at HD;have hbs:=Lib.hid (show Y<wr.heap.size from HX.out.size);have HRN:=Lib.hid (HX.out.rest.num);have HBP:=Lib.hid (show gA a b j%gB a b j<gB a b j from Nat.mod_lt _ (by omega));have hyw:=HX.out.size;go_upto_region 11 with (go_at_call 25;refine (HD.out _).mono ?_;rintro e w5 ⟨rfl,hb5⟩;have hcw5:=(bcell hb5).1;have hfw5:=(bcell hb5).2;have hs5:=hb5.size;have hq5:R<w5.heap.size:=by { omega };have hq6:R<wr.heap.size:=by { omega })
    have hb5':=(Below.refl w5.heap.size w5);obtain ⟨Q,hQ⟩:∃ Q,w5.heap.size=Q:=⟨_,rfl⟩;obtain ⟨W5,hW5⟩:∃ W5,(((w5.setCell ⟨R,0,none⟩ (Value.string (B (gB a b j)))).setCell ⟨R,1,none⟩ (Value.string (B (gA a b j%gB a b j)))).alloc (Obj.cells #[Value.string (B q)] 22))=W5:=⟨_,rfl⟩;have hx5:=HX.out.x.below hb5 (by omega);have hy5:=HX.out.y.below hb5 (by omega);have hr5:=(HX.out.rest.below hb5 (by omega)).set (gB a b j) (gA a b j%gB a b j);have ho1:=HX.out.o1.below hb5 (by omega);have ho2:=HX.out.o2.below hb5 (by omega)
    have hbl:Below w.heap.size w W5:=by
     rw [← hW5];exact (((below2 HX.out.below hb5).setCell (by show w.heap.size≤R;omega) _).setCell (by show w.heap.size≤R;omega) _).alloc (by have:=HX.out.below.size;simp;omega) _
    have hz5:W5.heap.size=Q+1:=by rw [← hW5,← hQ];simp
    have ax:At2 W5 X (gX a b j) (gX a b (j+1)):=by
     rw [← hW5];exact ((hx5.far (by show X≠R;omega) _).far (by show X≠R;omega) _).alloc (by simp;omega) _
    have ay:At2 W5 Y (gY a b j) (gY a b (j+1)):=by
     rw [← hW5];exact ((hy5.far (by show Y≠R;omega) _).far (by show Y≠R;omega) _).alloc (by simp;omega) _
    have ar:At2s W5 R (gB a b j) (gA a b j%gB a b j):=by
     rw [← hW5];exact hr5.below ((Below.refl _ _).alloc (Nat.le_refl _) _) (by simp;omega)
    have a1:Free2 W5 w.heap.size:=by
     rw [← hW5];exact ((ho1.far (by show w.heap.size≠R;omega) _).far (by show w.heap.size≠R;omega) _).below ((Below.refl _ _).alloc (Nat.le_refl _) _) (by simp;omega)
    have a2:Free2 W5 (w.heap.size+1):=by
     rw [← hW5];exact ((ho2.far (by show w.heap.size+1≠R;omega) _).far (by show w.heap.size+1≠R;omega) _).below ((Below.refl _ _).alloc (Nat.le_refl _) _) (by simp;omega)
    have aq:W5.cell? ⟨Q,0,none⟩=some (.string (B q)):=by
     rw [← hW5,← hQ];simp [go_sem]
    have HNX:=Lib.hid (fun w (hc:Q<w.heap.size) hcell=>integer_next (gX a b j) (gX a b (j+1)) q Q w hc hcell (k_lim (by omega)) (k_lim (by omega)) (k_lim (by omega)) (k_lim (by omega)) (k_lim (by omega)));have HNY:=Lib.hid (fun w (hc:Q<w.heap.size) hcell=>integer_next (gY a b j) (gY a b (j+1)) q Q w hc hcell (k_lim (by omega)) (k_lim (by omega)) (k_lim (by omega)) (k_lim (by omega)) (k_lim (by omega)));rw [← h6] at HNX;rw [← h7] at HNY
    have HX5:Hid (∀ wx,At2 wx X (gX a b (j+1)) (gX a b (j+2))→At2 wx Y (gY a b (j+1)) (gY a b (j+2))→Below w.heap.size w wx→At2s wx R (gB a b j) (gA a b j%gB a b j)→Free2 wx w.heap.size→Free2 wx (w.heap.size+1)→Y<wx.heap.size→ExtG a b w R X Y (j+1) wx):=by
     apply Lib.hid;intro wx i1 i2 i3 i4 i5 i6 i7;exact ⟨by rw [h4,h5];exact i4,i1,i2,i5,i6,i3,i7⟩
    rw [hW5,hQ];unfold iz2 at HNX HNY;have HAR:=Lib.hid ar;have HA1:=Lib.hid a1;have HA2:=Lib.hid a2;have HBL:=Lib.hid hbl;have HAX:=Lib.hid ax;have HAY:=Lib.hid ay;have x0:=ax.c0;have x1:=ax.c1;have x2:=ax.c2;have x3:=ax.c3;have y0:=ay.c0;have y1:=ay.c1;have y2:=ay.c2;have y3:=ay.c3;have xf:=ax.fr;have yf:=ay.fr;clear ar a1 a2 hbl ax ay hx5 hy5 hr5 ho1 ho2 hW5 hb5' HX h1 h2 h3 h4 h5 h6 h7 h8 h9 h10 h11 h12 h13 h14 hq he c0 c1 hfr HD HST;have k1:X<W5.heap.size:=by omega
    have k2:Y<W5.heap.size:=by omega
    have k3:Q<W5.heap.size:=by omega
    clear hb5 hcw5 hfw5 hs5 hq5 hq6 hz5;generalize gsx0:decide (gX a b j<0)=sx0 at *
    have Gsx0:=Lib.hid gsx0;clear gsx0;generalize gsx1:decide (gX a b (j+1)<0)=sx1 at *
    have Gsx1:=Lib.hid gsx1;clear gsx1;generalize gsy0:decide (gY a b j<0)=sy0 at *
    have Gsy0:=Lib.hid gsy0;clear gsy0;generalize gsy1:decide (gY a b (j+1)<0)=sy1 at *
    have Gsy1:=Lib.hid gsy1;clear gsy1;generalize gnx0:(gX a b j).natAbs=nx0 at *
    have Gnx0:=Lib.hid gnx0;clear gnx0;generalize gnx1:(gX a b (j+1)).natAbs=nx1 at *
    have Gnx1:=Lib.hid gnx1;clear gnx1;generalize gny0:(gY a b j).natAbs=ny0 at *
    have Gny0:=Lib.hid gny0;clear gny0;generalize gny1:(gY a b (j+1)).natAbs=ny1 at *
    have Gny1:=Lib.hid gny1;clear gny1;obtain ⟨sx2,hsx2⟩:∃ bb,decide (gX a b (j+2)<0)=bb:=⟨_,rfl⟩;obtain ⟨nx2,hnx2⟩:∃ bb,(gX a b (j+2)).natAbs=bb:=⟨_,rfl⟩;obtain ⟨sy2,hsy2⟩:∃ bb,decide (gY a b (j+2)<0)=bb:=⟨_,rfl⟩;obtain ⟨ny2,hny2⟩:∃ bb,(gY a b (j+2)).natAbs=bb:=⟨_,rfl⟩;rw [hsx2,hnx2] at HNX;rw [hsy2,hny2] at HNY;have HSX2:=Lib.hid hsx2;have HNX2:=Lib.hid hnx2;have HSY2:=Lib.hid hsy2;have HNY2:=Lib.hid hny2;clear hsx2 hnx2 hsy2 hny2;go_region_with (first|(go_at_call 160;(with_reducible refine (HNX.out _ (by first|exact k3|(simp;exact k3)) (by first|exact aq|(simp;exact aq))).mono ?_);rintro e w6 ⟨rfl,hb6⟩;have hb56:Below W5.heap.size W5 w6:=by { first|exact hb6|exact ((Below.refl _ W5).drew).trans hb6 };have hcw6:=(bcell hb56).1;have hfw6:=(bcell hb56).2;have hs6:=hb56.size;have aq6:w6.cell? ⟨Q,0,none⟩=some (.string (B q)):=by { rw [hcw6 _ _ k3];exact aq };have m1:X<w6.heap.size:=by { omega };have m2:Y<w6.heap.size:=by { omega };have m3:Q<w6.heap.size:=by { omega })|(go_at_call 160;(with_reducible refine (HNY.out _ (by first|exact m3|(simp;exact m3)) (by first|exact aq6|(simp;exact aq6))).mono ?_);rintro e w7 ⟨rfl,hb7⟩;have hb57:Below W5.heap.size W5 w7:=by { first|exact below2 hb56 hb7|exact below2 hb56 (((Below.refl _ _).drew).trans hb7) };have hcw7:=(bcell hb57).1;have hfw7:=(bcell hb57).2;have hs7:=hb57.size;have p1:X<w7.heap.size:=by { omega };have p2:Y<w7.heap.size:=by { omega }))
    all_goals
     go_wp2_with fail;go_roundw
     case rel =>
      have zx:=(HAX.out.below hb57 k1).set (gX a b (j+1)) (gX a b (j+2));have zy:=((((HAY.out.below hb57 k2).far (p:=⟨X,0,none⟩) (by show Y≠X;omega) (.bool (decide (gX a b (j+1)<0)))).far (p:=⟨X,1,none⟩) (by show Y≠X;omega) (.string (B (gX a b (j+1)).natAbs))).far (p:=⟨X,2,none⟩) (by show Y≠X;omega) (.bool (decide (gX a b (j+2)<0)))).far (p:=⟨X,3,none⟩) (by show Y≠X;omega) (.string (B (gX a b (j+2)).natAbs));have zy2:=zy.set (gY a b (j+1)) (gY a b (j+2));have zx2:=(((zx.far (p:=⟨Y,0,none⟩) (by show X≠Y;omega) (.bool (decide (gY a b (j+1)<0)))).far (p:=⟨Y,1,none⟩) (by show X≠Y;omega) (.string (B (gY a b (j+1)).natAbs))).far (p:=⟨Y,2,none⟩) (by show X≠Y;omega) (.bool (decide (gY a b (j+2)<0)))).far (p:=⟨Y,3,none⟩) (by show X≠Y;omega) (.string (B (gY a b (j+2)).natAbs));rw [Gsx1.out,Gnx1.out,HSX2.out,HNX2.out,Gsy1.out,Gny1.out,HSY2.out,HNY2.out] at zx2 zy2;have hbl:=below2 HBL.out hb57;refine ⟨j+1,by omega,HX5.out _ zx2 zy2 ?_ ?_ ?_ ?_ ?_⟩
      · exact (((((((hbl.setCell (by show w.heap.size≤X;omega) _).setCell (by show w.heap.size≤X;omega) _).setCell (by show w.heap.size≤X;omega) _).setCell (by show w.heap.size≤X;omega) _).setCell (by show w.heap.size≤Y;omega) _).setCell (by show w.heap.size≤Y;omega) _).setCell (by show w.heap.size≤Y;omega) _).setCell (by show w.heap.size≤Y;omega) _
      · exact ((((((((HAR.out.below hb57 (by omega)).far (by show R≠X;omega) _).far (by show R≠X;omega) _).far (by show R≠X;omega) _).far (by show R≠X;omega) _).far (by show R≠Y;omega) _).far (by show R≠Y;omega) _).far (by show R≠Y;omega) _).far (by show R≠Y;omega) _
      · exact ((((((((HA1.out.below hb57 (by omega)).far (by show w.heap.size≠X;omega) _).far (by show w.heap.size≠X;omega) _).far (by show w.heap.size≠X;omega) _).far (by show w.heap.size≠X;omega) _).far (by show w.heap.size≠Y;omega) _).far (by show w.heap.size≠Y;omega) _).far (by show w.heap.size≠Y;omega) _).far (by show w.heap.size≠Y;omega) _
      · exact ((((((((HA2.out.below hb57 (by omega)).far (by show w.heap.size+1≠X;omega) _).far (by show w.heap.size+1≠X;omega) _).far (by show w.heap.size+1≠X;omega) _).far (by show w.heap.size+1≠X;omega) _).far (by show w.heap.size+1≠Y;omega) _).far (by show w.heap.size+1≠Y;omega) _).far (by show w.heap.size+1≠Y;omega) _).far (by show w.heap.size+1≠Y;omega) _
      · simp;omega
     case measure =>
      have har:=((((((((HAR.out.below hb57 (by omega)).far (p:=⟨X,0,none⟩) (by show R≠X;omega) (.bool sx1)).far (p:=⟨X,1,none⟩) (by show R≠X;omega) (.string (B nx1))).far (p:=⟨X,2,none⟩) (by show R≠X;omega) (.bool sx2)).far (p:=⟨X,3,none⟩) (by show R≠X;omega) (.string (B nx2))).far (p:=⟨Y,0,none⟩) (by show R≠Y;omega) (.bool sy1)).far (p:=⟨Y,1,none⟩) (by show R≠Y;omega) (.string (B ny1))).far (p:=⟨Y,2,none⟩) (by show R≠Y;omega) (.bool sy2)).far (p:=⟨Y,3,none⟩) (by show R≠Y;omega) (.string (B ny2));rw [har.num,HRN.out];exact HBP.out
  · obtain rfl:j=N:=by omega
    obtain ⟨hg,hxb,hyb,hbz,hpos,hg0⟩:=e_end HAB.out.2.2 HNI.out HNN.out;obtain ⟨g,hgg⟩:∃ g,Nat.gcd a b=g:=⟨_,rfl⟩;rw [hgg] at hg hbz hpos hg0;have hgb:g≤b:=by rw [← hgg];exact Nat.gcd_le_right _ (Nat.pos_of_ne_zero HAB.out.2.2)
    have c0:wr.cell? ⟨R,0,none⟩=some (.string (B g)):=by have:=hx.rest.c0;rwa [hg] at this
    have c1:wr.cell? ⟨R,1,none⟩=some (.string (B 0)):=by have:=hx.rest.c1;rwa [HNN.out] at this
    have he:=B_isEmpty_true;obtain ⟨x0,hx0⟩:∃ x0,gX a b j=x0:=⟨_,rfl⟩;obtain ⟨y0,hy0⟩:∃ y0,gY a b j=y0:=⟨_,rfl⟩;rw [hx0] at hxb hbz hpos;rw [hy0] at hyb hbz;have hfx:FinAt w X Y (decide (x0<0)) x0.natAbs (decide (y0<0)) y0.natAbs wr:=⟨⟨by rw [← hx0];exact hx.x.c0,by rw [← hx0];exact hx.x.c1,hx.x.fr⟩,⟨by rw [← hy0];exact hx.y.c0,by rw [← hy0];exact hx.y.c1,hx.y.fr⟩,hx.o1,hx.o2,hx.below,hx.size⟩;obtain ⟨t,ht⟩:∃ t,decide (y0<0)=t:=⟨_,rfl⟩;obtain ⟨m,hm⟩:∃ m,y0.natAbs=m:=⟨_,rfl⟩;obtain ⟨n,hn⟩:∃ n,x0.natAbs=n:=⟨_,rfl⟩;rw [ht,hm,hn] at hfx;have iy:iz y0=.agg #[.bool t,.string (B m)]:=by unfold iz;rw [ht,hm]
    by_cases hs:x0<0
    · have hXu:=hpos hs
      rw [decide_eq_true hs] at hfx;have ix:iz x0=.agg #[.bool true,.string (B n)]:=by unfold iz;rw [decide_eq_true hs,hn]
      obtain ⟨u,hu⟩:∃ u,b/g=u:=⟨_,rfl⟩;obtain ⟨v,hv⟩:∃ v,a/g=v:=⟨_,rfl⟩;have hub:u≤b:=by rw [← hu];exact Nat.div_le_self _ _
      have hva:v≤a:=by rw [← hv];exact Nat.div_le_self _ _
      have hbz2:(a:Int)*(x0+u)+b*(y0-v)=g:=by
       have e1:a*u=b*v:=by
        rw [← hu,← hv,← hgg,← Nat.mul_div_assoc _ (Nat.gcd_dvd_right a b),← Nat.mul_div_assoc _ (Nat.gcd_dvd_left a b),Nat.mul_comm a b]
       have e2:(a:Int)*(u:Int)=(b:Int)*(v:Int):=by rw [← Int.natCast_mul,e1,Int.natCast_mul]
       rw [Int.mul_add,Int.mul_sub,e2];omega
      rw [hu] at hXu;obtain ⟨n',hn'⟩:∃ n':Nat,x0+u=n':=⟨(x0+u).natAbs,by omega⟩;have ia:iz (x0+u)=.agg #[.bool false,.string (B n')]:=by unfold iz;rw [hn',Int.natAbs_natCast,decide_eq_false (by omega)]
      obtain ⟨t',ht'⟩:∃ t',decide (y0-(v:Int)<0)=t':=⟨_,rfl⟩;obtain ⟨m',hm'⟩:∃ m',(y0-(v:Int)).natAbs=m':=⟨_,rfl⟩;have ib:iz (y0-v)=.agg #[.bool t',.string (B m')]:=by unfold iz;rw [ht',hm']
      have hAB:=HAB.out;have hfu:iz (u:Int)=.agg #[.bool false,.string (B u)]:=by unfold iz;rw [Int.natAbs_natCast,decide_eq_false (by omega)]
      have hfv:iz (v:Int)=.agg #[.bool false,.string (B v)]:=by unfold iz;rw [Int.natAbs_natCast,decide_eq_false (by omega)]
      have HAD:=Lib.hid (fun w=>integer_Add x0 u w (k_lim (by omega)) (k_lim (by omega)) (k_lim (by omega)));have HSU:=Lib.hid (fun w=>integer_Sub y0 v w (k_lim (by omega)) (k_lim (by omega)) (k_lim (by omega)));rw [ix,ia,hfu] at HAD;rw [iy,ib,hfv] at HSU;have HRES:=Lib.hid (show ∃ X Y:Int,(Ending.returned (.tuple #[.string (B g),.agg #[.bool false,.string (B n')],.agg #[.bool t',.string (B m')],.int .i64 0]))=.returned (.tuple #[.string (B (Nat.gcd a b)),iz X,iz Y,.int .i64 0])∧0≤X∧(a:Int)*X+b*Y=(Nat.gcd a b:Nat)∧X.natAbs≤b from ⟨x0+u,y0-v,by rw [hgg,ia,ib],by omega,by rw [hgg];exact hbz2,by omega⟩);have x0:=hfx.x.c0;have HF:=Lib.hid hfx;have HD1:=Lib.hid (fun w=>natural_DivMod' b g w hAB.2.1 (by omega) (by omega));have HD2:=Lib.hid (fun w=>natural_DivMod' a g w hAB.1 (by omega) (by omega));rw [hu] at HD1;rw [hv] at HD2;have HFA:=Lib.hid (fun w=>integer_From u w (Lib.hid (k_lim (by omega))));have HFB:=Lib.hid (fun w=>integer_From v w (Lib.hid (k_lim (by omega))));have hz:=hfx.size;have hl1:X<wr.heap.size:=by omega
      clear hx hfx HST hg hxb hyb hbz hpos hg0 hgg hgb hx0 hy0 ht hm hn iy hs hXu ix hu hv hub hva hbz2 hn' ia ht' hm' ib hAB hfu hfv;go_upto_region 16 with (first|(go_at_call 25;(with_reducible refine (HD1.out _).mono ?_);rintro e w8 ⟨rfl,hb8⟩;have hs8:=hb8.size;have hl8:X<w8.heap.size:=by { omega })|(go_at_call 25;(with_reducible refine (HD2.out _).mono ?_);rintro e w9 ⟨rfl,hb9⟩;have hs9:=hb9.size;have hl9:X<w9.heap.size:=by { omega }))
      have hf9:=(HF.out.next hb8 hXY (by omega)).next hb9 hXY (by omega);have HF9:=Lib.hid hf9;clear hf9 HF HD1 HD2 hb8 hb9 hs8 hs9 hl8 hl9 hl1 hz c0 c1 x0 he hlt;go_cut [88] (fun _ wx=>FinAt w X Y false n' t m wx)
      case first =>
       have x0:=HF9.out.x.c0;have x1:=HF9.out.x.c1;have xf:=HF9.out.x.fr;have hz:=HF9.out.size;have k1:X<w9.heap.size:=by omega
       go_region_with (first|(go_at_call 98;(with_reducible refine (HFA.out _).mono ?_);rintro e w10 ⟨rfl,hb10⟩;have hb910:Below w9.heap.size w9 w10:=by { first|exact hb10|exact ((Below.refl _ w9).drew).trans hb10 };have hcw10:=(bcell hb910).1;have hfw10:=(bcell hb910).2;have hs10:=hb910.size;have m1:X<w10.heap.size:=by { omega })|(go_at_call 163;(with_reducible refine (HAD.out _).mono ?_);rintro e w11 ⟨rfl,hb11⟩;have hb911:Below w9.heap.size w9 w11:=by { first|exact below2 hb910 hb11|exact below2 hb910 (((Below.refl _ _).drew).trans hb11) };have hcw11:=(bcell hb911).1;have hfw11:=(bcell hb911).2;have hs11:=hb911.size;have m2:X<w11.heap.size:=by { omega }))
       all_goals
        go_wp2_with fail;go_meet;have hf:=HF9.out.next hb911 hXY (by omega);exact ⟨hf.x.set false n',(hf.y.far (by show Y≠X;omega) _).far (by show Y≠X;omega) _,(hf.o1.far (by show w.heap.size≠X;omega) _).far (by show w.heap.size≠X;omega) _,(hf.o2.far (by show w.heap.size+1≠X;omega) _).far (by show w.heap.size+1≠X;omega) _,(hf.below.setCell (by show w.heap.size≤X;omega) _).setCell (by show w.heap.size≤X;omega) _,by have:=hf.size;simpa using this⟩
      case rest =>
       have HFC:=Lib.hid hcut;clear HF9 hcut;go_upto_region 17 with fail
       go_cut [97] (fun _ wx=>FinAt w X Y false n' t' m' wx)
       case first =>
        have x0:=HFC.out.y.c0;have x1:=HFC.out.y.c1;have xf:=HFC.out.y.fr;have k1:=HFC.out.size;go_region_with (first|(go_at_call 98;(with_reducible refine (HFB.out _).mono ?_);rintro e w10 ⟨rfl,hb10⟩;have hb910:Below wc.heap.size wc w10:=by { first|exact hb10|exact ((Below.refl _ wc).drew).trans hb10 };have hcw10:=(bcell hb910).1;have hfw10:=(bcell hb910).2;have hs10:=hb910.size;have m1:Y<w10.heap.size:=by { omega })|(go_at_call 162;(with_reducible refine (HSU.out _).mono ?_);rintro e w11 ⟨rfl,hb11⟩;have hb911:Below wc.heap.size wc w11:=by { first|exact below2 hb910 hb11|exact below2 hb910 (((Below.refl _ _).drew).trans hb11) };have hcw11:=(bcell hb911).1;have hfw11:=(bcell hb911).2;have hs11:=hb911.size;have m2:Y<w11.heap.size:=by { omega }))
        all_goals
         go_wp2_with fail;go_meet;have hf:=HFC.out.next hb911 hXY (by omega);exact ⟨(hf.x.far (by show X≠Y;omega) _).far (by show X≠Y;omega) _,hf.y.set t' m',(hf.o1.far (by show w.heap.size≠Y;omega) _).far (by show w.heap.size≠Y;omega) _,(hf.o2.far (by show w.heap.size+1≠Y;omega) _).far (by show w.heap.size+1≠Y;omega) _,(hf.below.setCell (by show w.heap.size≤Y;omega) _).setCell (by show w.heap.size≤Y;omega) _,by have:=hf.size;simpa using this⟩
       case rest =>
        have x0:=hcut.x.c0;have x1:=hcut.x.c1;have y0:=hcut.y.c0;have y1:=hcut.y.c1;obtain ⟨a0,o0⟩:=hcut.o1.c0;obtain ⟨a1,o1⟩:=hcut.o1.c1;obtain ⟨b0,p0⟩:=hcut.o2.c0;obtain ⟨b1,p1⟩:=hcut.o2.c1;have of:=hcut.o1.fr;have pf:=hcut.o2.fr;have HB:=Lib.hid hcut.below;clear hcut;go_upto_region 18 with fail
        go_region_with (fail)
        all_goals
         go_wp2_with fail
         exact bodyPost_ret (v:=.tuple #[.string (B g),.agg #[.bool false,.string (B n')],.agg #[.bool t',.string (B m')],.int .i64 0]) (by simp [results,Tryz.results139,go_sem,o0,o1,p0,p1]) rfl ⟨HRES.out,by
          first
           | exact ((((HB.out.setCell (by simp) _).setCell (by simp) _).setCell (by simp) _).setCell (by simp) _)
           | exact (((((HB.out.drew).setCell (by simp) _).setCell (by simp) _).setCell (by simp) _).setCell (by simp) _)
           | exact ((((((HB.out.setCell (by simp) _).setCell (by simp) _).drew).setCell (by simp) _).setCell (by simp) _))⟩
    · have ix:iz x0=.agg #[.bool false,.string (B n)]:=by unfold iz;rw [decide_eq_false hs,hn]
      rw [decide_eq_false hs] at hfx;have HRES:=Lib.hid (show ∃ X Y:Int,(Ending.returned (.tuple #[.string (B g),.agg #[.bool false,.string (B n)],.agg #[.bool t,.string (B m)],.int .i64 0]))=.returned (.tuple #[.string (B (Nat.gcd a b)),iz X,iz Y,.int .i64 0])∧0≤X∧(a:Int)*X+b*Y=(Nat.gcd a b:Nat)∧X.natAbs≤b from ⟨x0,y0,by rw [hgg,ix,iy],by omega,by rw [hgg];exact hbz,hxb⟩);have hcut:=hfx;have hl1:X<wr.heap.size:=by have:=hfx.size;omega
      clear hx hfx HST hg hxb hyb hbz hpos hg0 hgg hgb hx0 hy0 ht hm hn iy hs ix;have x0:=hcut.x.c0;have x1:=hcut.x.c1;have y0:=hcut.y.c0;have y1:=hcut.y.c1;obtain ⟨a0,o0⟩:=hcut.o1.c0;obtain ⟨a1,o1⟩:=hcut.o1.c1;obtain ⟨b0,p0⟩:=hcut.o2.c0;obtain ⟨b1,p1⟩:=hcut.o2.c1;have of:=hcut.o1.fr;have pf:=hcut.o2.fr;have HB:=Lib.hid hcut.below;clear hcut;go_upto_region 18 with fail
      go_region_with (fail)
      all_goals
       go_wp2_with fail
       exact bodyPost_ret (v:=.tuple #[.string (B g),.agg #[.bool false,.string (B n)],.agg #[.bool t,.string (B m)],.int .i64 0]) (by simp [results,Tryz.results139,go_sem,o0,o1,p0,p1]) rfl ⟨HRES.out,by
        first
         | exact ((((HB.out.setCell (by simp) _).setCell (by simp) _).setCell (by simp) _).setCell (by simp) _)
         | exact (((((HB.out.drew).setCell (by simp) _).setCell (by simp) _).setCell (by simp) _).setCell (by simp) _)
         | exact ((((((HB.out.setCell (by simp) _).setCell (by simp) _).drew).setCell (by simp) _).setCell (by simp) _))⟩
end Go.Proofs.YtiacajjpkncomaaGreatDoor
