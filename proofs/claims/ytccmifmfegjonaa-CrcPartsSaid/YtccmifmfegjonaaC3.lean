/- Layer 3 (crc): the walks of the laws CrcChanges, CrcZeros. -/
import Derived.Test.YtccmifmfegjonaaC2
namespace Go.Proofs.Ytccmifmfegjonaa
open Go.RowKit
set_option linter.unusedVariables false

theorem Try.info_b : (Try.prog.info? 5).map (fun i => (i.zero, i.size, i.bytes)) = some (some (.int .u8 0), 1, 1) := by kernel_rfl
theorem own_form1 {w : World} {base n c : Nat} {e : TypeId} {A : Option Addr} {xs : List Value} (h : Own w base e 1 A n c xs) (hn : 0 < n) :
    ∃ g, A = some ⟨g, 0, none⟩ ∧ base ≤ g ∧ g < w.heap.size := by
  rcases h.1.2 with ⟨_, rfl⟩ | ⟨g, cap, cur, hv, h1, h2, _⟩
  · omega
  · injection hv with hA
    subst hA
    exact ⟨g, rfl, h1, (h.1.lt g rfl).2⟩
theorem own_lit0 (w : World) (e : TypeId) : Own (w.alloc (.cells #[] e)) w.heap.size e 1 (some ⟨w.heap.size, 0, none⟩) 0 0 [] :=
  ⟨World.ownsRow_lit _ #[] 0 (Nat.le_refl _) (by simp [maxLen]) rfl, Nat.le_refl _, by simp [maxLen]⟩
theorem own_cell {w : World} {base n c g k : Nat} {e : TypeId} {l : List UInt8} (h : Own w base e 1 (some ⟨g, 0, none⟩) n c (bv l)) (hk : k < n) :
    w.cell? ⟨g, k, none⟩ = some (.int .u8 ((l.getD k 0).toNat : Int)) := by
  have hl : l.length = n := by have := h.len; rw [bv_length] at this; omega
  rw [h.1.cellAt k (by omega), bv_get?]
  simp [List.getD, List.getElem?_eq_getElem (show k < l.length by omega)]
theorem bv_set' (l : List UInt8) (i : Nat) (c : UInt8) : bv (l.set i c) = (bv l).set i (.int .u8 (c.toNat : Int)) := by simp [bv, List.map_set]
theorem changes_far (w : World) {v : Value} {k x : Int} (hb : IsBytes w v) (wk : (Lit.int .i64 k).wf = true) (wx : (Lit.int .u8 x).wf = true)
    (h : (∃ A n c, v = .slice A n c ∧ (1000 < n ∨ k < 0 ∨ (n : Int) ≤ k))) :
    Calls Try.prog 10 #[v, .int .i64 k, .int .u8 x] w fun e w' => e = .returned (.bool true) ∧ Below w.heap.size w w' := by
  obtain ⟨A, n, c, rfl, h⟩ := h
  obtain ⟨A', n', c', l, hv, hnc, hc, hr⟩ := hb
  injection hv with h1 h2 h3
  subst h1 h2 h3
  simp only [maxLen] at hc
  have C9 := Lib.hid awake03_any
  by_cases hn : 1000 < n
  · clear h
    go_enter Try.func10, Try.ntmps10
    go_wp2_with fail
    refine (C9.out _).mono ?_; rintro e w2 ⟨rfl, hb2⟩
    go_wp2
    go_ret
    exact ⟨rfl, hb2⟩
  · have C1 := Lib.hid (change_no n k x (by omega))
    by_cases hk : k < 0
    · clear h
      go_enter Try.func10, Try.ntmps10
      go_wp2_with fail
      refine (C1.out _).mono ?_; rintro e w' ⟨rfl, rfl⟩
      go_wp2_with fail
      refine (C9.out _).mono ?_; rintro e w2 ⟨rfl, hb2⟩
      go_wp2
      go_ret
      exact ⟨rfl, hb2⟩
    · have hk2 : (n : Int) ≤ k := by omega
      clear h
      go_enter Try.func10, Try.ntmps10
      go_wp2_with fail
      refine (C1.out _).mono ?_; rintro e w' ⟨rfl, rfl⟩
      go_wp2_with fail
      refine (C9.out _).mono ?_; rintro e w2 ⟨rfl, hb2⟩
      go_wp2
      go_ret
      exact ⟨rfl, hb2⟩
set_option maxHeartbeats 1000000 in
theorem changes_in (w : World) (A : Option Addr) (n c : Nat) (l : List UInt8) (hr : Rd w w.heap.size 1 A n (bv l)) (hn : n ≤ 1000) (k : Nat) (hk : k < n) (x : UInt8) :
    Calls Try.prog 10 #[.slice A n c, .int .i64 k, .int .u8 (x.toNat : Int)] w fun e w' => e = .returned (.bool true) ∧ Below w.heap.size w w' := by
  have hl : l.length = n := by have := hr.len; rw [bv_length] at this; exact this
  obtain ⟨i0, hi, hz0, hz1, hz2⟩ := info_parts Try.info_b
  have C9 := Lib.hid awake03_any
  have hxb := x.toNat_lt
  have c1 := change_any n k x.toNat (by omega) hk (by omega)
  have hset := crcN_set l k (by omega) x
  rw [hl] at hset
  have hY := stpN_lt (8 * (n - k)) (s := x.toNat) (by omega)
  have hY0 := stpN_eq_zero (8 * (n - k)) (s := x.toNat) (by omega)
  have hS := crcN_lt l
  have hS' := crcN_lt (l.set k (l.getD k 0 ^^^ x))
  have C2 := Lib.hid (sum_any A n c w.heap.size l)
  have C3 := Lib.hid (fun (A : Option Addr) (c B : Nat) => sum_any A n c B (l.set k (l.getD k 0 ^^^ x)))
  generalize stpN (8 * (n - k)) x.toNat = Y at *
  generalize crcN (l.set k (l.getD k 0 ^^^ x)) = S' at *
  generalize crcN l = S at *
  have e1 : bits .xor .u32 (S : Int) (Y : Int) = (S' : Int) := by rw [u32_xor_nat S Y hS hY, hset]
  obtain ⟨d, t1, t2, t3⟩ : ∃ d : Bool, ((S' : Int) == (S : Int)) = d ∧ ((x.toNat : Int) == 0) = d ∧ ((Y : Int) == 0) = d := by
    by_cases h0 : x.toNat = 0
    · have hy := hY0.2 h0
      exact ⟨true, by rw [hset, hy]; simp, by simp [h0], by simp [hy]⟩
    · have hy : Y ≠ 0 := fun e => h0 (hY0.1 e)
      refine ⟨false, ?_, by simp; omega, by simp; omega⟩
      rw [beq_eq_false_iff_ne]
      intro e
      have e : S' = S := by omega
      rw [e] at hset
      have := congrArg (S ^^^ ·) hset
      simp [← Nat.xor_assoc] at this
      exact hy this.symm
  have t4 : ((S' : Int) == (S' : Int)) = true := by simp
  have C1 := Lib.hid c1
  have ex : bits .xor .u8 ((l.getD k 0).toNat : Int) (x.toNat : Int) = ((l.getD k 0 ^^^ x).toNat : Int) := by
    rw [u8_xor_nat _ _ (by have := (l.getD k 0).toNat_lt; omega) (by omega), UInt8.toNat_xor]
  clear c1 hset hY0 hS hS' hY
  have hcell : ∀ (w2 : World) (c2 g : Nat), Own w2 w.heap.size 5 1 (some ⟨g, 0, none⟩) n c2 (bv l) → w2.cell? ⟨g, k, none⟩ = some (.int .u8 ((l.getD k 0).toNat : Int)) := fun _ _ _ h => own_cell h hk
  have HC := Lib.hid hcell
  clear hcell
  generalize l.getD k 0 = y at *
  generalize y ^^^ x = z at *
  go_enter Try.func10, Try.ntmps10
  go_wp2_with fail
  refine (C1.out _).mono ?_; rintro e w' ⟨rfl, rfl⟩
  go_wp2_with (at_builtin; refine wpList_append_rd _ rfl _ _ 27 rfl w.heap.size 5 i0 (.int .u8 0) 1 1 Try.underlying27 hi hz0 hz1 hz2 rfl (by decide) (by decide) _ 0 0 [] rfl (own_lit0 _ _) w.heap.size A n c (bv l) rfl (hr.alloc (Nat.le_refl _) _) (bv_oneCell l) (by omega) (by simp) ?_; intro A2 c2 w2 o2 b2; simp only [Nat.zero_add, List.nil_append] at o2; obtain ⟨g, rfl, hg, hgs⟩ := own_form1 o2 (by omega); have q0 := HC.out _ _ _ o2; have q1 := o2.1.frozenAt k)
  have st := o2.1.stored k (.int .u8 (z.toNat : Int))
  rw [← bv_set'] at st
  have o3 : Own (w2.setCell ⟨g, k, none⟩ (.int .u8 (z.toNat : Int))) w.heap.size 5 1 (some ⟨g, 0, none⟩) n c2 (bv (l.set k z)) := ⟨st.1, o2.2⟩
  have bA : Below w.heap.size w w2 := ((Below.refl _ _).alloc (Nat.le_refl _) _).trans b2
  have b3 := bA.grown st.2 bA.size (by intro j hj; injection hj with hj; omega)
  clear st o2 bA b2
  generalize w2.setCell ⟨g, k, none⟩ (.int .u8 (z.toNat : Int)) = w3 at *
  have r3 := hr.below b3
  have s3 := o3.rd
  have hw3 := b3.size
  clear o3
  refine (C3.out _ c2 w3.heap.size _ (by omega) s3 (Nat.le_refl _)).mono ?_; rintro e w4 ⟨rfl, b4⟩
  have s4 := s3.below b4
  have r4 := r3.below (below_of_le b4 hw3)
  have k4 := below_step b3 b4
  clear s3 r3
  go_wp2_with fail
  refine (C2.out _ (by omega) r4 (by have := b4.size; omega)).mono ?_; rintro e w5 ⟨rfl, b5⟩
  have s5 := s4.below (below_of_le b5 b4.size)
  have r5 := r4.below (below_of_le b5 k4.size)
  have k5 := below_step k4 b5
  have z5 := b5.size
  have z4 := b4.size
  clear s4 r4
  go_wp2_with fail
  refine (C3.out _ c2 w3.heap.size _ (by omega) s5 (by omega)).mono ?_; rintro e w6 ⟨rfl, b6⟩
  have r6 := r5.below (below_of_le b6 k5.size)
  have k6 := below_step k5 b6
  have z6 := b6.size
  clear s5 r5
  go_wp2_with fail
  refine (C2.out _ (by omega) r6 (by omega)).mono ?_; rintro e w7 ⟨rfl, b7⟩
  have k7 := below_step k6 b7
  clear r6
  have key : ∀ W, Below w.heap.size w W → Calls Try.prog 21 #[] W fun e w' => e = .returned (.bool true) ∧ Below w.heap.size w w' := fun W h => (C9.out W).mono fun e w' ⟨he, hb⟩ => ⟨he, below_step h hb⟩
  have KEY := Lib.hid key
  clear key
  cases d
  all_goals
    go_wp2_with fail
    refine (KEY.out _ k7).mono ?_; rintro e w8 ⟨rfl, b8⟩
    go_wp2
    go_ret
    exact ⟨rfl, b8⟩
theorem crcChanges_walk (w : World) {v : Value} {k x : Int} (hb : IsBytes w v) (wk : (Lit.int .i64 k).wf = true) (wx : (Lit.int .u8 x).wf = true) :
    Calls Try.prog 10 #[v, .int .i64 k, .int .u8 x] w fun e w' => e = .returned (.bool true) ∧ Below w.heap.size w w' := by
  have hb0 := hb
  obtain ⟨A, n, c, l, rfl, hnc, hc, hr⟩ := hb
  by_cases h : 1000 < n ∨ k < 0 ∨ (n : Int) ≤ k
  · exact changes_far w hb0 wk wx ⟨A, n, c, rfl, h⟩
  · obtain ⟨K, rfl⟩ := Int.eq_ofNat_of_zero_le (show 0 ≤ k by omega)
    obtain ⟨g, g'⟩ := bounds_u8 wx
    obtain ⟨X, rfl⟩ := Int.eq_ofNat_of_zero_le g
    have e : ((UInt8.ofNat X).toNat : Int) = (X : Int) := by simp; omega
    have := changes_in w A n c l hr (by omega) K (by omega) (UInt8.ofNat X)
    rw [e] at this
    exact this
end Go.Proofs.Ytccmifmfegjonaa
