/- wallet.entry. -/
import Derived.Test.YtlheedcnmfekoaaWq
namespace Go.Proofs.Ytlheedcnmfekoaa
open Go.RowKit
set_option maxRecDepth 100000
set_option linter.unusedVariables false
set_option maxHeartbeats 4000000

/-- append of a row of items to a row of the call's own. -/
theorem wpList_append_Is {w : World} {ops : Array Oper} {rest : List Oper} {o : Oper} {a : Act} {Q : Exit → Act → World → Prop} (hgd : o.guard = none) (s x : Operand)
    (ho : o.op = .call { callee := .builtin .append, args := #[s, x], argTypes := #[60, 60] })
    (base : Nat) (v : Value) (l : Its) (hs : a.eval s = v) (hown : OwnI w base v l) (m : Its) (S : Nat → Prop) (A : Option Addr) (c : Nat) (hx : a.eval x = .slice A m.len c)
    (hm : SlI w S A m) (hS : ∀ g, S g → g < base) (hsz : l.len ≤ 100000) (hmz : m.len ≤ 100000) (hbase : base ≤ w.heap.size)
    (h : ∀ A' c' w', SlI w' (fun g => g < w'.heap.size) A' (l.app m) → Below base w w' → wpList Try.prog ops Q rest (a.put o.dst (.slice A' (l.app m).len c')) w') : wpList Try.prog ops Q (o :: rest) a w := by
  obtain ⟨i, hi, hz, hs1, hb1⟩ := itemE
  have hbk := hown.blockOf
  obtain ⟨L, h1, h2⟩ := hown
  obtain ⟨L2, r2, q2⟩ := hm
  have hr : Reads w w.heap.size 4 A m.len L2 := ⟨q2.length, fun hn => by
    obtain ⟨g, off, e, hg, hc⟩ := r2 hn
    exact ⟨_, e, Nat.lt_of_lt_of_le (hS _ hg) hbase, fun j u hu => by rw [addr_add]; exact hc j u hu⟩⟩
  refine wpList_append_any w hgd s x 60 ho base 69 i (.agg #[.int .i64 0, .string ByteArray.empty, .string ByteArray.empty, .slice none 0 0]) 4 64 Try.underlying60 hi hz hs1 hb1 rfl (by decide) v l.len L hs h1 w.heap.size A m.len c L2 hx hr q2.one (by unfold maxLen; omega) (by omega) hbase ?_
  intro v' w' g1 g2 g3
  have k1 : RelI w' (fun g => g < w'.heap.size) l L := (h2.keep fun p hp => World.cell?_of_block (g2.block p.block hp.2.1 (fun e => hp.2.2 e.symm))).mono fun g hg => Nat.lt_of_lt_of_le hg.2.1 g2.size
  have k2 : RelI w' (fun g => g < w'.heap.size) m L2 := (q2.keep fun p hp => World.cell?_of_block (g2.block p.block (Nat.lt_of_lt_of_le (hS _ hp) hbase) (fun e => by have h3 := (hbk p.block (by first | exact e | exact e.symm)).1; have := hS _ hp; omega))).mono fun g hg => Nat.lt_of_lt_of_le (Nat.lt_of_lt_of_le (hS g hg) hbase) g2.size
  have hbe := below_grown g2 hbase fun k hk => (hbk k hk).1
  rcases g1.2 with ⟨rfl, h0⟩ | ⟨g, cap, cur, rfl, hb, hg, _⟩
  · have e : (l.app m).len = 0 := by rw [Its.len_app]; omega
    have := h none 0 w' ⟨L ++ L2, fun hn => absurd hn (by omega), k1.app k2⟩ hbe
    rwa [e] at this
  · have e : (l.app m).len = l.len + m.len := Its.len_app l m
    have := h (some ⟨g, 0, none⟩) cap w' ⟨L ++ L2, fun _ => ⟨g, 0, rfl, (Array.getElem?_eq_some_iff.1 hg).1, fun j u hu => by have h4 := g1.cells (g := g) rfl j u hu; rwa [addr_add] at h4⟩, k1.app k2⟩ hbe
    rwa [e] at this
/-- A new row of one item. -/
theorem own_one (W : World) (base : Nat) (hb : base ≤ W.heap.size) (k : Int) (n t : ByteArray) :
    OwnI (W.alloc (.cells #[.int .i64 k, .string n, .string t, .slice none 0 0] 69)) base (.slice (some ⟨W.heap.size, 0, none⟩) 1 1) (.cons k n t .nil .nil) :=
  ⟨[.int .i64 k, .string n, .string t, .slice none 0 0], ⟨rfl, .inr ⟨W.heap.size, 1, _, rfl, hb, heap_alloc_new W _, Nat.le_refl _, by decide, rfl, rfl⟩⟩,
    none, 0, [], [], rfl, fun h => absurd h (by simp [Its.len]), rfl, rfl⟩
theorem wal_entry (name : ByteArray) (l : Its) (A : Option Addr) (c : Nat) (S : Nat → Prop) (w : World) (hsz : l.size ≤ 10000) (hsl : SlI w S A l) (hS : ∀ g, S g → g < w.heap.size) (hel : (encOne (2, ⟨#[]⟩, ⟨#[]⟩, .cons 1 ⟨#[]⟩ name .nil l)).length ≤ 200000000) :
    Calls Try.prog 39 #[.string name, .slice A l.len c] w fun e w' => e = .returned (.tuple #[.string (encS (2, ⟨#[]⟩, ⟨#[]⟩, .cons 1 ⟨#[]⟩ name .nil l)).1, .int .i64 (encS (2, ⟨#[]⟩, ⟨#[]⟩, .cons 1 ⟨#[]⟩ name .nil l)).2]) ∧ Below w.heap.size w w' := by
  have HT := Lib.hid (fun W => enc_Text name W)
  have HSL := Lib.hid hsl
  have HS := Lib.hid hS
  have hll : l.len ≤ 100000 := Nat.le_trans (Its.len_size l) (Nat.le_trans hsz (by decide))
  obtain ⟨m, hm⟩ : ∃ m, Its.cons 1 ⟨#[]⟩ name .nil l = m := ⟨_, rfl⟩
  have hap : (Its.cons 1 ⟨#[]⟩ name .nil .nil).app l = m := by rw [← hm]; rfl
  have hmz : m.size ≤ 100000 := by rw [← hm]; simp only [Its.size]; omega
  rw [hm] at hel ⊢
  have HLI := Lib.hid (fun A' c' W (h : SlI W (fun g => g < W.heap.size) A' m) => enc_List m A' c' (fun g => g < W.heap.size) W hmz h (fun g hg => hg))
  have HEC := Lib.hid (fun A' c' W S' (h : SlI W S' A' m) (hS' : ∀ g, S' g → g < W.heap.size) => enc_Encode (2, ⟨#[]⟩, ⟨#[]⟩, m) A' c' S' W hmz hel h hS')
  unfold valI at HEC
  dsimp only at HEC
  obtain ⟨r, hr⟩ : ∃ r, encS (2, ⟨#[]⟩, ⟨#[]⟩, m) = r := ⟨_, rfl⟩
  rw [hr] at HEC ⊢
  have HMZ := Lib.hid (And.intro hap (And.intro hll hmz))
  clear hsl hS hsz hel hm hap hmz hr hll
  go_enter Try.func39, Try.ntmps39
  go_wp2_with (first
    | (go_at_call 40; (with_reducible refine (HT.out _).mono ?_); rintro e w1 ⟨rfl, hb1⟩; have HB1 := Lib.hid hb1; clear hb1)
    | (at_builtin; go_loud (refine wpList_append_Is rfl (.tmp 8) (.tmp 9) rfl w.heap.size (.slice (some ⟨w1.heap.size, 0, none⟩) 1 1) (.cons 1 ⟨#[]⟩ name .nil .nil) (by simp [Act.eval]) (own_one w1 w.heap.size HB1.out.size 1 ⟨#[]⟩ name) l S A c (by simp [Act.eval]) (HSL.out.below (HB1.out.alloc HB1.out.size _) HS.out) HS.out (by simp [Its.len]) HMZ.out.2.1 (by have := HB1.out.size; simp; omega) ?_); intro A3 c3 w3 hs3 hb3; rw [HMZ.out.1] at hs3; rw [HMZ.out.1]; have HB3 := Lib.hid (And.intro hs3 ((HB1.out.alloc HB1.out.size _).trans hb3)); clear hs3 hb3)
    | (go_at_call 66; (with_reducible refine (HLI.out _ _ _ HB3.out.1).mono ?_); rintro e w4 ⟨A4, c4, rfl, hs4, hb4⟩; have HB4 := Lib.hid (And.intro hs4 (below2 HB3.out.2 hb4)); clear hs4 hb4)
    | (go_at_call 65; (with_reducible refine (HEC.out _ _ _ _ HB4.out.1 (fun g hg => hg.2)).mono ?_); rintro e w5 ⟨rfl, hb5⟩; have HB5 := Lib.hid (below2 HB4.out.2 hb5); clear hb5))
  go_ret2
  exact ⟨rfl, HB5.out⟩

end Go.Proofs.Ytlheedcnmfekoaa
