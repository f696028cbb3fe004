/- Layer 1 (bits): slices.Reverse over a slice of the call's own; High; awake. -/
import Derived.Test.YtccmifmfegjonaaB3
import Derived.RegionTactic
namespace Go.Proofs.Ytccmifmfegjonaa
open Go.RowKit
set_option linter.unusedVariables false

/-- The list while it is reversed: i pairs are exchanged. -/
def rvL (l : List UInt8) (i : Nat) : List UInt8 := (List.range l.length).map fun p => if p < i ∨ l.length ≤ p + i then l.getD (l.length - 1 - p) 0 else l.getD p 0
theorem rvL_length (l : List UInt8) (i : Nat) : (rvL l i).length = l.length := by simp [rvL]
theorem rvL_get (l : List UInt8) (i p : Nat) (h : p < l.length) : (rvL l i)[p]? = some (if p < i ∨ l.length ≤ p + i then l.getD (l.length - 1 - p) 0 else l.getD p 0) := by
  simp [rvL, List.getElem?_range h]
theorem getD_of {l : List UInt8} {p : Nat} (h : p < l.length) : l[p]? = some (l.getD p 0) := by simp [List.getD, List.getElem?_eq_getElem h]
theorem rvL_zero (l : List UInt8) : rvL l 0 = l := by
  apply List.ext_getElem?
  intro p
  by_cases h : p < l.length
  · rw [rvL_get l 0 p h, if_neg (by omega), getD_of h]
  · rw [List.getElem?_eq_none (by rw [rvL_length]; omega), List.getElem?_eq_none (by omega)]
theorem rvL_end (l : List UInt8) (i : Nat) (h : l.length ≤ 2 * i + 1) : rvL l i = l.reverse := by
  apply List.ext_getElem?
  intro p
  by_cases hp : p < l.length
  · rw [rvL_get l i p hp, List.getElem?_reverse hp, getD_of (by omega)]
    by_cases hc : p < i ∨ l.length ≤ p + i
    · rw [if_pos hc]
    · rw [if_neg hc]
      have : p = l.length - 1 - p := by omega
      rw [← this]
  · rw [List.getElem?_eq_none (by rw [rvL_length]; omega), List.getElem?_eq_none (by simp; omega)]
theorem rvL_step (l : List UInt8) (i : Nat) (h : i < l.length - 1 - i) :
    ((rvL l i).set i (l.getD (l.length - 1 - i) 0)).set (l.length - 1 - i) (l.getD i 0) = rvL l (i + 1) := by
  apply List.ext_getElem?
  intro p
  by_cases hp : p < l.length
  · rw [rvL_get l (i + 1) p hp, List.getElem?_set, List.getElem?_set]
    simp only [List.length_set, rvL_length]
    by_cases h1 : l.length - 1 - i = p
    · rw [if_pos h1, if_pos (by omega), if_pos (by omega)]
      congr 2
      omega
    · rw [if_neg h1]
      by_cases h2 : i = p
      · subst h2
        rw [if_pos rfl, if_pos (by omega), if_pos (by omega)]
      · rw [if_neg h2, rvL_get l i p hp]
        by_cases hc : p < i ∨ l.length ≤ p + i
        · rw [if_pos hc, if_pos (by omega)]
        · rw [if_neg hc, if_neg (by omega)]
  · rw [List.getElem?_eq_none (by simp [rvL_length]; omega), List.getElem?_eq_none (by rw [rvL_length]; omega)]
theorem bv_set (l : List UInt8) (i : Nat) (c : UInt8) : bv (l.set i c) = (bv l).set i (.int .u8 (c.toNat : Int)) := by simp [bv, List.map_set]

/-- Below 'base' nothing has turned; the slice holds other bytes. -/
def Turned (w : World) (base : Nat) (A : Option Addr) (n c : Nat) (l : List UInt8) (e : Ending) (w' : World) : Prop :=
  e = .returned (.tuple #[]) ∧ Own w' base 5 1 A n c (bv l) ∧ Below base w w'
theorem own_form {w : World} {base n c : Nat} {e : TypeId} {A : Option Addr} {xs : List Value} (h : Own w base e 1 A n c xs) (hn : 0 < n) :
    ∃ g, A = some ⟨g, 0, none⟩ ∧ base ≤ g ∧ g < w.heap.size := by
  rcases h.1.2 with ⟨_, rfl⟩ | ⟨g, cap, cur, hv, h1, h2, _⟩
  · omega
  · injection hv with hA
    subst hA
    exact ⟨g, rfl, h1, (h.1.lt g rfl).2⟩
set_option maxHeartbeats 1000000 in
theorem reverse_any (l : List UInt8) (A : Option Addr) (n c base : Nat) (w : World) (hl : n ≤ 9223372036854775807) (h : Own w base 5 1 A n c (bv l)) :
    Calls Try.prog 54 #[.slice A n c] w (Turned w base A n c l.reverse) := by
  have hll : l.length = n := by have := h.len; rw [bv_length] at this; omega
  by_cases hn : n = 0
  · subst hn
    have : l = [] := List.eq_nil_of_length_eq_zero hll
    subst this
    go_enter Try.func54, Try.ntmps54
    go_wp2
    refine wp_loop_rounds 1 ?_
    rw [rounds_succ]
    go_wp2
    go_end0
    exact ⟨rfl, h, Below.refl _ _⟩
  · obtain ⟨g, rfl, hg, hgs⟩ := own_form h (by omega)
    go_enter Try.func54, Try.ntmps54
    go_wp2
    go_loopw [2, 3] (fun x y wr => ∃ i J : Nat, x = .int .i64 i ∧ y = .int .i64 J ∧ J = n - 1 - i ∧ i < n ∧ Own wr base 5 1 (some ⟨g, 0, none⟩) n c (bv (rvL l i)) ∧ Below base w wr) (fun _ y _ => (intOf y).toNat)
    case atStart =>
      refine ⟨0, n - 1, rfl, by go_num, by omega, by omega, ?_, Below.refl _ _⟩
      rw [rvL_zero]; exact h
    case round =>
      obtain ⟨i, J, rfl, rfl, hJ, hin, hown, hb⟩ := hrel
      by_cases hlt : i < J
      · have s1 := hown.1.stored i (.int .u8 ((l.getD (l.length - 1 - i) 0).toNat : Int))
        have s2 := s1.1.stored J (.int .u8 ((l.getD i 0).toNat : Int))
        have hJ' : l.length - 1 - i = J := by omega
        rw [hJ', ← bv_set, ← bv_set, ← hJ', rvL_step l i (by omega), hJ'] at s2
        rw [hJ'] at s1
        have hci : wr.cell? ⟨g, i, none⟩ = some (.int .u8 ((l.getD i 0).toNat : Int)) := by
          rw [hown.1.cellAt i (by omega), bv_get?, rvL_get l i i (by omega), if_neg (by omega)]
          rfl
        have hcj : wr.cell? ⟨g, J, none⟩ = some (.int .u8 ((l.getD J 0).toNat : Int)) := by
          rw [hown.1.cellAt J (by omega), bv_get?, rvL_get l i J (by omega), if_neg (by omega)]
          rfl
        have hfi := hown.1.frozenAt i
        have hfj := hown.1.frozenAt J
        have S2 := Lib.hid s2
        have S1 := Lib.hid s1
        clear s1 s2 hJ'
        generalize (l.getD i 0).toNat = x at *
        generalize (l.getD J 0).toNat = y at *
        have hJn : J < n := by omega
        have hne : ¬ i = J := by omega
        have HJ := Lib.hid hJ
        clear hJ
        go_wp2
        go_region
        all_goals
          go_wp2
          go_roundw
          case rel =>
            have HJ := HJ.out
            have b1 := hb.grown S1.out.2 (by have := hown.1.lt g rfl; have := hb.size; omega) (by intro k hk; injection hk with hk; omega)
            have b2 := b1.grown S2.out.2 (by have := hown.1.lt g rfl; have := hb.size; simp; omega) (by intro k hk; injection hk with hk; omega)
            exact ⟨i + 1, J - 1, by go_num, by go_num, by omega, by omega, ⟨S2.out.1, h.2⟩, b2.drew⟩
          case measure => simp [intOf]; omega
      · have he := rvL_end l i (by omega)
        rw [he] at hown
        go_wp2
        go_end0
        exact ⟨rfl, hown, hb⟩

theorem high_no (n : Nat) (k : Int) (hn : n < 18446744073709551616) (hk : k < 1 ∨ 8 < k ∨ ¬ n < 2 ^ (8 * k.toNat)) (h1 : -9223372036854775808 ≤ k) (h2 : k ≤ 9223372036854775807) (w : World) :
    Calls Try.prog 28 #[.int .u64 n, .int .i64 k] w fun e w' => e = .returned (.tuple #[.slice none 0 0, .int .i64 4]) ∧ Below w.heap.size w w' := by
  have C1 := Lib.hid (bytes_no n k hn hk h1 h2)
  have C2 := Lib.hid (reverse_any [] none 0 0)
  clear hk
  go_enter Try.func28, Try.ntmps28
  go_wp2_with (first
    | (go_at_call 27; refine (C1.out _).mono ?_; rintro e w' ⟨rfl, rfl⟩)
    | (go_at_call 54; refine (C2.out w.heap.size _ (by omega) Own.nil_).mono ?_; rintro e w1 ⟨rfl, hown, hb⟩))
  go_ret2
  exact ⟨rfl, hb⟩
theorem high_any (n k : Nat) (hn : n < 18446744073709551616) (h1 : 1 ≤ k) (h8 : k ≤ 8) (hr : n < 2 ^ (8 * k)) (w : World) :
    Calls Try.prog 28 #[.int .u64 n, .int .i64 k] w (NewBytes2 w (leB n k).reverse 0) := by
  have C1 := Lib.hid (bytes_any n k hn h1 h8 hr)
  have C2 := Lib.hid (reverse_any (leB n k))
  clear hr
  have hll := leB_length n k
  generalize leB n k = l at *
  subst hll
  go_enter Try.func28, Try.ntmps28
  go_wp2_with (first
    | (go_at_call 27; refine (C1.out _).mono ?_; rintro e w1 ⟨A, c, rfl, hown, hb⟩)
    | (go_at_call 54; refine (C2.out A _ c w.heap.size _ (by omega) hown).mono ?_; rintro e w2 ⟨rfl, hown2, hb2⟩))
  go_ret2
  refine ⟨A, c, ?_, ?_, hb.trans hb2⟩
  · rw [List.length_reverse]; rfl
  · rw [List.length_reverse]; exact hown2

theorem bytes258 (w : World) : Calls Try.prog 27 #[.int .u64 258, .int .i64 2] w fun e w' =>
    ∃ g c, e = .returned (.tuple #[.slice (some ⟨g, 0, none⟩) 2 c, .int .i64 0]) ∧ w'.cell? ⟨g, 0, none⟩ = some (.int .u8 2) ∧ w'.cell? ⟨g, 1, none⟩ = some (.int .u8 1) ∧ Below w.heap.size w w' := by
  refine (bytes_any 258 2 (by omega) (by omega) (by omega) (by decide) w).mono ?_
  rintro e w1 ⟨A, c, rfl, hown, hb⟩
  have e1 : leB 258 2 = [2, 1] := by decide
  rw [e1] at hown ⊢
  obtain ⟨g, rfl, _⟩ := own_form hown (by decide)
  exact ⟨g, c, rfl, hown.1.cellAt 0 (by decide), hown.1.cellAt 1 (by decide), hb⟩
theorem awake01_any (w : World) : Calls Try.prog 20 #[] w fun e w' => e = .returned (.bool true) ∧ Below w.heap.size w w' := by
  have C1 := Lib.hid bytes258
  have c2 := fold_any (-3) (by omega) (by omega)
  rw [show foldI (-3) = 5 by decide] at c2
  have C2 := Lib.hid c2
  clear c2
  go_enter Try.func20, Try.ntmps20
  go_wp2_with (first
    | (go_at_call 27; refine (C1.out _).mono ?_; rintro e w1 ⟨g, c, rfl, r0, r1, hb⟩)
    | (go_at_call 17; refine (C2.out _).mono ?_; rintro e w2 ⟨rfl, rfl⟩))
  go_ret
  exact ⟨rfl, hb⟩
theorem bitsFolds_walk (w : World) {n m : Int} (wn : (Lit.int .i64 n).wf = true) (wm : (Lit.int .u64 m).wf = true) :
    Calls Try.prog 3 #[.int .i64 n, .int .u64 m] w fun e w' => e = .returned (.bool true) ∧ Below w.heap.size w w' := by
  obtain ⟨h, h'⟩ := bounds_i64 wn
  obtain ⟨g, g'⟩ := bounds_u64 wm
  have g' : m < 18446744073709551616 := by omega
  have C1 := Lib.hid (fold_any n h h')
  have C2 := Lib.hid (rfold_any n h h')
  have c3 := unfold_any (foldI n) (foldI_nn n) (foldI_lt n h h')
  rw [unfold_fold] at c3
  have C3 := Lib.hid c3
  have C4 := Lib.hid (unfold_any m g g')
  have c5 := fold_any (unfoldI m) (unfoldI_ge m g g') (unfoldI_le m g g')
  rw [fold_unfold m g] at c5
  have C5 := Lib.hid c5
  clear c3 c5
  go_enter Try.func3, Try.ntmps3
  go_wp2_with fail
  refine (C1.out _).mono ?_; rintro e w' ⟨rfl, rfl⟩
  go_wp2_with fail
  refine (C2.out _).mono ?_; rintro e w' ⟨rfl, rfl⟩
  go_wp2_with fail
  refine (C1.out _).mono ?_; rintro e w' ⟨rfl, rfl⟩
  go_wp2_with fail
  refine (C3.out _).mono ?_; rintro e w' ⟨rfl, rfl⟩
  go_wp2_with fail
  refine (C4.out _).mono ?_; rintro e w' ⟨rfl, rfl⟩
  go_wp2_with fail
  refine (C5.out _).mono ?_; rintro e w' ⟨rfl, rfl⟩
  go_wp2_with fail
  refine (awake01_any _).mono ?_; rintro e w' ⟨rfl, hb⟩
  go_wp2
  go_ret
  exact ⟨rfl, hb⟩
end Go.Proofs.Ytccmifmfegjonaa
