/- Layer 16 (dot): Put. -/
import Derived.Test.YtailbppddnegoaaDD
import Derived.Test.YtailbppddnegoaaPP
namespace Go.Proofs.Ytailbppddnegoaa
open Go.RowKit
set_option linter.unusedVariables false
set_option maxRecDepth 100000
set_option maxHeartbeats 400000

theorem Ch.cell {S : Nat → Prop} {w w' : World} (h : Ch S w w') {p : Addr} (hp : p.block < w.heap.size) (hS : ¬ S p.block) : w'.cell? p = w.cell? p := World.cell?_of_block (h.block _ hp hS)
theorem WStep.trans {w w1 w2 : World} {b : Nat} {A A1 A2 : Option Addr} (h : WStep w w1 b A A1) (k : WStep w1 w2 b A1 A2) : WStep w w2 b A A2 := by
  refine ⟨h.1.trans k.1 ?_, ?_⟩
  · rintro j hj (rfl | hA)
    · exact .inl rfl
    · rcases h.2 j hA with h' | h'
      · exact .inr h'
      · omega
  · intro g hg
    rcases k.2 g hg with h' | h'
    · exact h.2 g h'
    · exact .inr (Nat.le_trans h.1.size h')
theorem WStep.of_below {w w1 w2 : World} {b : Nat} {A A2 : Option Addr} (h : Below w.heap.size w w1) (k : WStep w1 w2 b A A2) : WStep w w2 b A A2 := by
  refine ⟨(below_ch h).trans k.1 (fun j _ hj => hj), fun g hg => ?_⟩
  rcases k.2 g hg with h' | h'
  · exact .inl h'
  · exact .inr (Nat.le_trans h.size h')
theorem WStep.below {w w1 w2 : World} {b : Nat} {A A1 : Option Addr} (h : WStep w w1 b A A1) (k : Below w1.heap.size w1 w2) : WStep w w2 b A A1 :=
  ⟨h.1.trans (below_ch (S := fun _ => False) k) (fun _ _ hf => hf.elim), h.2⟩
theorem WStep.refl (w : World) (b : Nat) (A : Option Addr) : WStep w w b A A := ⟨Ch.refl _ _, fun g hg => .inl hg⟩
theorem Wr.below {w w' : World} {base b c : Nat} {A : Option Addr} {l : List UInt8} (h : Wr w base b A c l) (k : Below w.heap.size w w') : Wr w' base b A c l :=
  ⟨h.1, h.2.1.below k h.2.1.lt, h.2.2.below k (Nat.le_refl _)⟩
theorem Wr.ch {S : Nat → Prop} {w w' : World} {base b c : Nat} {A : Option Addr} {l : List UInt8} (h : Wr w base b A c l) (k : Ch S w w') (h1 : ¬ S b) (h2 : ∀ g, bl A = some g → ¬ S g) : Wr w' base b A c l :=
  ⟨h.1, h.2.1.ch k h1, h.2.2.ch k (fun g _ _ hg => h2 g hg)⟩
/-- A boxed dot, as cells, in a block that the writer does not touch. -/
def DotS (n b : Nat) (d i s : Int) (W : World) : Prop :=
  n < W.heap.size ∧ n ≠ b ∧ W.cell? ⟨n, 0, none⟩ = some (.int .i64 d) ∧ W.cell? ⟨n, 1, none⟩ = some (.int .i64 i) ∧ W.cell? ⟨n, 2, none⟩ = some (.int .i64 s)
theorem DotS.below {n b : Nat} {d i s : Int} {W W' : World} (h : DotS n b d i s W) (k : Below W.heap.size W W') : DotS n b d i s W' := by
  obtain ⟨h0, h1, c0, c1, c2⟩ := h
  refine ⟨Nat.lt_of_lt_of_le h0 k.size, h1, ?_, ?_, ?_⟩
  all_goals
    rw [k.cell (by simpa using h0)]
    assumption
theorem DotS.ch {S : Nat → Prop} {n b : Nat} {d i s : Int} {W W' : World} (h : DotS n b d i s W) (k : Ch S W W') (hS : ¬ S n) : DotS n b d i s W' := by
  obtain ⟨h0, h1, c0, c1, c2⟩ := h
  refine ⟨Nat.lt_of_lt_of_le h0 k.size, h1, ?_, ?_, ?_⟩
  all_goals
    rw [k.cell h0 hS]
    assumption
/-- 'Num' beside a boxed dot. -/
theorem wnum_dot (n : Nat) (d i s : Int) (w : World) (base b : Nat) (A : Option Addr) (c : Nat) (l : List UInt8) (x : Nat) (h : Wr w base b A c l) (hA : bl A ≠ some n) (hbase : base ≤ w.heap.size) (hl : l.length ≤ 1000000) (hx : x < 18446744073709551616)
    (hD : DotS n b d i s w) :
    Calls Try.prog 100 #[.pointer (some ⟨b, 0, none⟩), .int .u64 x] w fun e w' => ∃ A' c', e = .returned (.pointer (some ⟨b, 0, none⟩)) ∧ Wr w' base b A' c' (l ++ vput x) ∧ WStep w w' b A A' ∧ bl A' ≠ some n ∧ base ≤ w'.heap.size ∧
      n < w'.heap.size ∧ n ≠ b ∧ w'.cell? ⟨n, 0, none⟩ = some (.int .i64 d) ∧ w'.cell? ⟨n, 1, none⟩ = some (.int .i64 i) ∧ w'.cell? ⟨n, 2, none⟩ = some (.int .i64 s) := by
  refine (wnum_any w base b A c l x h hbase hl hx).mono ?_
  rintro e w' ⟨A', c', rfl, h', st⟩
  have hne : bl A' ≠ some n := by
    intro e
    rcases st.2 n e with h1 | h1
    · exact hA h1
    · have := hD.1; omega
  obtain ⟨k0, k1, k2, k3, k4⟩ := hD.ch st.1 (by rintro (e | e); exact hD.2.1 e; exact hA e)
  exact ⟨A', c', rfl, h', st, hne, Nat.le_trans hbase st.1.size, k0, k1, k2, k3, k4⟩
/-- A dot, packed. -/
def dotP (d i s : Int) : List UInt8 := if dotB d i s = true then vput d.toNat ++ (vput i.toNat ++ vput s.toNat) else []
/-- What a step of the writer that hands nothing back leaves. -/
def WEnd0 (w : World) (base b : Nat) (A : Option Addr) (l : List UInt8) (e : Ending) (w' : World) : Prop :=
  ∃ A' c', e = .returned (.tuple #[]) ∧ Wr w' base b A' c' l ∧ WStep w w' b A A'
theorem dput_any (d i s : Int) (w : World) (base b : Nat) (A : Option Addr) (c : Nat) (l : List UInt8) (h : Wr w base b A c l) (hbase : base ≤ w.heap.size) (hl : l.length ≤ 900000) :
    Calls Try.prog 87 #[.pointer (some ⟨b, 0, none⟩), dotV d i s] w (WEnd0 w base b A (l ++ dotP d i s)) := by
  have C1 := Lib.hid (fun w => right_any d i s w)
  have hP : dotP d i s = if dotB d i s = true then vput d.toNat ++ (vput i.toNat ++ vput s.toNat) else [] := rfl
  have hB : dotB d i s = true → ∃ D I S : Nat, d = D ∧ i = I ∧ s = S ∧ D < 64 ∧ I ≤ 1048576 ∧ S ≤ 4294967296 := by
    intro hb
    simp [dotB, actB] at hb
    exact ⟨d.toNat, i.toNat, s.toNat, by omega, by omega, by omega, by omega, by omega, by omega⟩
  rw [hP]
  clear hP
  have hDS : DotS w.heap.size b d i s (w.alloc (.cells #[.int .i64 d, .int .i64 i, .int .i64 s] 27)) := by
    have hw := Whole.new w 27 #[.int .i64 d, .int .i64 i, .int .i64 s]
    refine ⟨hw.lt, Nat.ne_of_gt h.2.1.lt, ?_, ?_, ?_⟩
    all_goals (rw [hw.cell]; rfl)
  have hb0 : Below w.heap.size w (w.alloc (.cells #[.int .i64 d, .int .i64 i, .int .i64 s] 27)) := (Below.refl _ _).alloc (Nat.le_refl _) _
  have hsz : (w.alloc (.cells #[.int .i64 d, .int .i64 i, .int .i64 s] 27)).heap.size = w.heap.size + 1 := by simp
  unfold dotV at C1 ⊢
  generalize dotB d i s = q at *
  generalize hLL : (l ++ if q = true then vput d.toNat ++ (vput i.toNat ++ vput s.toNat) else []) = LL
  cases q
  · have HB := Lib.hid hb0
    have HL : LL = l := by rw [← hLL]; simp
    subst HL
    have hh := Lib.hid h
    clear hb0 hDS hsz hLL hB h
    go_enter Try.func87, Try.ntmps87
    go_wp2_with fail
    refine (C1.out _).mono ?_; rintro e w1 ⟨rfl, b1⟩
    go_wp2
    have b2 := below_step HB.out b1
    first | go_end0 | refine bodyPost_ret (results_none rfl _ _ _) rfl ?_
    exact ⟨A, c, rfl, hh.out.below b2, WStep.below (WStep.refl _ _ _) b2⟩
  · obtain ⟨D, I, S, rfl, rfl, rfl, hd, hi, hs⟩ := hB rfl
    have HL := Lib.hid (show LL = ((l ++ vput D) ++ vput I) ++ vput S by rw [← hLL]; simp)
    clear hLL
    have hA : bl A ≠ some w.heap.size := by
      intro e
      have := h.2.2.block_lt _ (by rw [ownBlock_bl]; exact e)
      omega
    have l1 := Lib.hid (vput_le (x := D) (by omega))
    have l2 := Lib.hid (vput_le (x := I) (by omega))
    have CN1 := Lib.hid (fun (W : World) (A' : Option Addr) (c' : Nat) (h : Wr W base b A' c' l) => wnum_dot w.heap.size D I S W base b A' c' l D h)
    have CN2 := Lib.hid (fun (W : World) (A' : Option Addr) (c' : Nat) (h : Wr W base b A' c' (l ++ vput D)) => wnum_dot w.heap.size D I S W base b A' c' (l ++ vput D) I h)
    have CN3 := Lib.hid (fun (W : World) (A' : Option Addr) (c' : Nat) (h : Wr W base b A' c' ((l ++ vput D) ++ vput I)) => wnum_dot w.heap.size D I S W base b A' c' ((l ++ vput D) ++ vput I) S h)
    have hS1 := fun (W1 : World) (h1 : Below (w.heap.size + 1) (w.alloc (.cells #[.int .i64 D, .int .i64 I, .int .i64 S] 27)) W1) => (h.below hb0).below (w' := W1) (by rw [hsz]; exact h1)
    have hS2 := fun (W1 : World) (h1 : Below (w.heap.size + 1) (w.alloc (.cells #[.int .i64 D, .int .i64 I, .int .i64 S] 27)) W1) => hDS.below (W' := W1) (by rw [hsz]; exact h1)
    have HB := Lib.hid hb0
    have HS1 := Lib.hid hS1
    have HS2 := Lib.hid hS2
    have HDS := Lib.hid hsz
    clear hb0 hDS hsz hB hS1 hS2
    go_enter Try.func87, Try.ntmps87
    go_wp2_with fail
    refine (C1.out _).mono ?_; rintro e w1 ⟨rfl, b1⟩
    rw [HDS.out] at b1
    have hW1 := HS1.out _ b1
    obtain ⟨s0, s1, s2, s3, s4⟩ := HS2.out _ b1
    have B1 := Lib.hid (HB.out.trans (below_of_le b1 (by omega)))
    clear HS1 HS2 HB b1 HDS
    have hbase1 : base ≤ w1.heap.size := Nat.le_trans hbase B1.out.size
    generalize hn : w.heap.size = n at *
    have len1 : l.length ≤ 1000000 := by omega
    have len2 : (l ++ vput D).length ≤ 1000000 := by have := l1.out; simp; omega
    have len3 : ((l ++ vput D) ++ vput I).length ≤ 1000000 := by have := l1.out; have := l2.out; simp; omega
    have x1 : D < 18446744073709551616 := by omega
    have x2 : I < 18446744073709551616 := by omega
    have x3 : S < 18446744073709551616 := by omega
    have y1 : IntKind.u64.wrap (D : Int) = (D : Int) := by rw [IntKind.wrap_u64]; omega
    have y2 : IntKind.u64.wrap (I : Int) = (I : Int) := by rw [IntKind.wrap_u64]; omega
    have y3 : IntKind.u64.wrap (S : Int) = (S : Int) := by rw [IntKind.wrap_u64]; omega
    clear l1 l2 C1 hd hi hs hl
    generalize ((l ++ vput D) ++ vput I) ++ vput S = L3 at *
    generalize (l ++ vput D) ++ vput I = L2 at *
    generalize l ++ vput D = L1 at *
    go_wp2_with fail
    have hWd : Wr w1.drew base b A c l := hW1
    have hbd : base ≤ w1.drew.heap.size := hbase1
    have d0 : n < w1.drew.heap.size := s0
    have d2 : w1.drew.cell? ⟨n, 0, none⟩ = some (.int .i64 D) := s2
    have d3 : w1.drew.cell? ⟨n, 1, none⟩ = some (.int .i64 I) := s3
    have d4 : w1.drew.cell? ⟨n, 2, none⟩ = some (.int .i64 S) := s4
    clear hW1 hbase1 s0 s2 s3 s4
    go_region_held3 (fun W => n < W.heap.size ∧ n ≠ b ∧ W.cell? ⟨n, 0, none⟩ = some (.int .i64 D) ∧ W.cell? ⟨n, 1, none⟩ = some (.int .i64 I) ∧ W.cell? ⟨n, 2, none⟩ = some (.int .i64 S)) (first | with_reducible assumption | exact ⟨by with_reducible assumption, by with_reducible assumption, by with_reducible assumption, by with_reducible assumption, by with_reducible assumption⟩ | go_keep) ((first
      | (go_at_call_of 100 (Value.int .u64 (D : Int)); refine (CN1.out _ _ _ (by with_reducible assumption) (by with_reducible assumption) (by with_reducible assumption) len1 x1 ⟨by with_reducible assumption, by with_reducible assumption, by with_reducible assumption, by with_reducible assumption, by with_reducible assumption⟩).mono ?_; rintro e w2 ⟨A2, c2, rfl, hW2, st2, hA2, hb2, p0, p1, p2, p3, p4⟩)
      | (go_at_call_of 100 (Value.int .u64 (I : Int)); refine (CN2.out _ _ _ (by with_reducible assumption) (by with_reducible assumption) (by with_reducible assumption) len2 x2 ⟨by with_reducible assumption, by with_reducible assumption, by with_reducible assumption, by with_reducible assumption, by with_reducible assumption⟩).mono ?_; rintro e w3 ⟨A3, c3, rfl, hW3, st3, hA3, hb3, p0, p1, p2, p3, p4⟩)
      | (go_at_call_of 100 (Value.int .u64 (S : Int)); refine (CN3.out _ _ _ (by with_reducible assumption) (by with_reducible assumption) (by with_reducible assumption) len3 x3 ⟨by with_reducible assumption, by with_reducible assumption, by with_reducible assumption, by with_reducible assumption, by with_reducible assumption⟩).mono ?_; rintro e w4 ⟨A4, c4, rfl, hW4, st4, hA4, hb4, p0, p1, p2, p3, p4⟩)))
    first | go_end0 | refine bodyPost_ret (results_none rfl _ _ _) rfl ?_
    have B2 : Below w.heap.size w w1.drew := by rw [hn]; exact B1.out.drew
    refine ⟨A4, c4, rfl, ?_, (WStep.of_below B2 st2).trans (st3.trans st4)⟩
    rw [HL.out]
    exact hW4
end Go.Proofs.Ytailbppddnegoaa
