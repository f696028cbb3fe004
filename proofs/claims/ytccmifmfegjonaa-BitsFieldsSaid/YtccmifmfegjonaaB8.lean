/- BitsFields: the walk of the law. -/
import Derived.Test.YtccmifmfegjonaaB7
import Derived.Test.YtccmifmfegjonaaO2
namespace Go.Proofs.Ytccmifmfegjonaa
open Go.RowKit
set_option linter.unusedVariables false

set_option maxRecDepth 100000 in
set_option maxHeartbeats 1000000 in
theorem bitsFields_no (n p q v : Int) (h : p < 0 ∨ 63 < p ∨ q < 1 ∨ 64 - p < q) (hp1 : -9223372036854775808 ≤ p) (hp2 : p ≤ 9223372036854775807) (w : World) :
    Calls Try.prog 9 #[.int .u64 n, .agg #[.int .i64 p, .int .i64 q], .int .u64 v] w fun e w' => e = .returned (.bool true) ∧ Below w.heap.size w w' := by
  have C1 := Lib.hid (field_no n p q h)
  have C2 := Lib.hid (with_no n p q v h)
  have C9 := Lib.hid awake01_any
  by_cases a1 : p < 0
  · clear h
    go_enter Try.func9, Try.ntmps9
    go_wp2_with fail
    refine (C1.out _).mono ?_; rintro e w' ⟨rfl, rfl⟩
    go_wp2_with fail
    refine (C2.out _).mono ?_; rintro e w' ⟨rfl, rfl⟩
    go_wp2_with fail
    refine (C9.out _).mono ?_; rintro e w2 ⟨rfl, hb2⟩
    go_wp2
    go_ret
    exact ⟨rfl, below_step ((Below.refl _ _).alloc (Nat.le_refl _) _) hb2⟩
  · by_cases a2 : 63 < p
    · clear h
      go_enter Try.func9, Try.ntmps9
      go_wp2_with fail
      refine (C1.out _).mono ?_; rintro e w' ⟨rfl, rfl⟩
      go_wp2_with fail
      refine (C2.out _).mono ?_; rintro e w' ⟨rfl, rfl⟩
      go_wp2_with fail
      refine (C9.out _).mono ?_; rintro e w2 ⟨rfl, hb2⟩
      go_wp2
      go_ret
      exact ⟨rfl, below_step ((Below.refl _ _).alloc (Nat.le_refl _) _) hb2⟩
    · by_cases a3 : q < 1
      · clear h
        go_enter Try.func9, Try.ntmps9
        go_wp2_with fail
        refine (C1.out _).mono ?_; rintro e w' ⟨rfl, rfl⟩
        go_wp2_with fail
        refine (C2.out _).mono ?_; rintro e w' ⟨rfl, rfl⟩
        go_wp2_with fail
        refine (C9.out _).mono ?_; rintro e w2 ⟨rfl, hb2⟩
        go_wp2
        go_ret
        exact ⟨rfl, below_step ((Below.refl _ _).alloc (Nat.le_refl _) _) hb2⟩
      · have a4 : 64 - p < q := by omega
        clear h
        go_enter Try.func9, Try.ntmps9
        go_wp2_with fail
        refine (C1.out _).mono ?_; rintro e w' ⟨rfl, rfl⟩
        go_wp2_with fail
        refine (C2.out _).mono ?_; rintro e w' ⟨rfl, rfl⟩
        go_wp2_with fail
        refine (C9.out _).mono ?_; rintro e w2 ⟨rfl, hb2⟩
        go_wp2
        go_ret
        exact ⟨rfl, below_step ((Below.refl _ _).alloc (Nat.le_refl _) _) hb2⟩
theorem rbit_int (n : Nat) (k : Int) (b : Bool) (hn : n < 18446744073709551616) (h0 : 0 ≤ k) (hk : k ≤ 64) (hb : n.testBit k.toNat = b) (w : World) :
    Calls Try.prog 35 #[.int .u64 n, .int .i64 k] w fun e w' => e = .returned (.bool b) ∧ w = w' := by
  obtain ⟨j, rfl⟩ := Int.eq_ofNat_of_zero_le h0
  have := rbit_any n j hn (by omega) w
  rw [Int.toNat_natCast] at hb
  rw [hb] at this
  exact this
set_option maxRecDepth 100000 in
set_option maxHeartbeats 2000000 in
theorem bitsFields_in (n p q v : Nat) (hn : n < 18446744073709551616) (hv : v < 18446744073709551616) (hp : p ≤ 63) (h1 : 1 ≤ q) (hq : q ≤ 64 - p) (w : World) :
    Calls Try.prog 9 #[.int .u64 n, .agg #[.int .i64 p, .int .i64 q], .int .u64 v] w fun e w' => e = .returned (.bool true) ∧ Below w.heap.size w w' := by
  have C1 := Lib.hid (field_any n p q hn hp h1 hq)
  have HB := fun i => Lib.hid (fieldN_bit n p q i)
  have hx : fieldN n p q < 18446744073709551616 := Nat.lt_of_le_of_lt (Nat.mod_le _ _) (Nat.lt_of_le_of_lt (Nat.div_le_self _ _) hn)
  generalize fieldN n p q = x at *
  obtain ⟨y, f, c2, hyf⟩ : ∃ (y : Nat) (f : Int), (∀ w, Calls Try.prog 39 #[.int .u64 n, .int .i64 p, .int .i64 q, .int .u64 v] w fun e w' => e = .returned (.tuple #[.int .u64 (y : Int), .int .i64 f]) ∧ w = w') ∧
      ((f = 4 ∧ y = 0 ∧ roomB v q = false) ∨ (f = 0 ∧ y < 18446744073709551616 ∧ roomB v q = true ∧ ∀ i, i < 64 → y.testBit i = if p ≤ i ∧ i < p + q then v.testBit (i - p) else n.testBit i)) := by
    cases hr : roomB v q
    · exact ⟨0, 4, with_noroom n p q v hp h1 hq hv hr, .inl ⟨rfl, rfl, rfl⟩⟩
    · have hv2 := (roomB_iff v q hv).1 hr
      exact ⟨withN n p q v, 0, with_any n p q v hn hp h1 hq hv hv2, .inr ⟨rfl, withN_lt n p q v hn hq hp hv2, rfl, fun i hi => withN_bit n p q v i hq hp hv2 hi⟩⟩
  have C2 := Lib.hid c2
  have C3 := Lib.hid (rroom_any v q hv (by omega))
  have C9 := Lib.hid awake01_any
  have HY := Lib.hid hyf
  clear c2 hyf
  have d1 : ¬ (64 - (p : Int)) < (q : Int) := by omega
  go_enter Try.func9, Try.ntmps9
  go_wp2_with fail
  refine (C1.out _).mono ?_; rintro e w' ⟨rfl, rfl⟩
  go_wp2_with fail
  refine (C2.out _).mono ?_; rintro e w' ⟨rfl, rfl⟩
  go_wp2
  obtain ⟨W0, hW0⟩ : ∃ W0, W0 = w.alloc (.cells #[.int .i64 p, .int .i64 q] 50) := ⟨_, rfl⟩
  have hc0 : W0.cell? ⟨w.heap.size, 0, none⟩ = some (.int .i64 p) := by rw [hW0]; go_cell
  have hc1 : W0.cell? ⟨w.heap.size, 1, none⟩ = some (.int .i64 q) := by rw [hW0]; go_cell
  have hb0 : Below w.heap.size w W0 := by rw [hW0]; exact (Below.refl _ _).alloc (Nat.le_refl _) _
  have hs0 : w.heap.size < W0.heap.size := by rw [hW0]; simp
  rw [← hW0]
  clear hW0
  go_loopw [11] (fun i wr => ∃ j : Nat, j ≤ 64 ∧ i = .int .i64 j ∧ Below W0.heap.size W0 wr) (fun i _ => 64 - (intOf i).toNat)
  case atStart => exact ⟨0, by omega, rfl, Below.refl _ _⟩
  case round =>
    obtain ⟨j, hj, rfl, hb⟩ := hrel
    have k0 := (hb.cell (p := ⟨w.heap.size, 0, none⟩) hs0).trans hc0
    have k1 := (hb.cell (p := ⟨w.heap.size, 1, none⟩) hs0).trans hc1
    by_cases hlt : j < 64
    · by_cases hjq : j < q
      · have e1 := (HB j).out
        have ex : x.testBit j = n.testBit (p + j) := by rw [e1]; simp [hjq]
        obtain ⟨bb, hbb⟩ : ∃ bb, n.testBit (p + j) = bb := ⟨_, rfl⟩
        have D1 := Lib.hid (rbit_int x j bb hx (by omega) (by omega) (by rw [Int.toNat_natCast, ex, hbb]))
        have D2 := Lib.hid (rbit_int n (p + j) bb hn (by omega) (by omega) (by rw [show ((p : Int) + (j : Int)).toNat = p + j by omega, hbb]))
        have hne : (bb != bb) = false := by simp
        have s1 : IntKind.i64.wrap ((p : Int) + (j : Int)) = (p : Int) + (j : Int) := IntWalk.i64_in _ (by omega)
        have g1 : decide ((j : Int) < (q : Int)) = true := by simp; omega
        have g2 : decide ((p : Int) + (j : Int) < 64) = true := by simp; omega
        have hmin : min ((p : Int) + (j : Int)) 63 = (p : Int) + (j : Int) := by omega
        clear e1 ex hbb
        go_wp2
        go_quiet ((first | (go_at_call 35; with_reducible exact quietL (D1.out _)) | (go_at_call 35; with_reducible exact quietL (D2.out _))))
        go_wp2
        go_roundw
        case rel => exact ⟨j + 1, by omega, by go_num, below_drewN hb _⟩
        case measure => simp [intOf]; omega
      · have e1 := (HB j).out
        have ex : x.testBit j = false := by rw [e1]; simp [hjq]
        have D1 := Lib.hid (rbit_int x j false hx (by omega) (by omega) (by rw [Int.toNat_natCast, ex]))
        have hne : (false != false) = false := by simp
        have g1 : decide ((j : Int) < (q : Int)) = false := by simp; omega
        clear e1 ex
        go_wp2
        go_quiet ((go_at_call 35; with_reducible exact quietL (D1.out _)))
        go_wp2
        go_roundw
        case rel => exact ⟨j + 1, by omega, by go_num, below_drewN hb _⟩
        case measure => simp [intOf]; omega
    · have hbW : Below w.heap.size w wr := below_step hb0 hb
      have hsr : w.heap.size < wr.heap.size := Nat.lt_of_lt_of_le hs0 hb.size
      clear hb
      go_wp2_with fail
      refine (C3.out _).mono ?_; rintro e w' ⟨rfl, rfl⟩
      rcases HY.out with ⟨rfl, rfl, hr⟩ | ⟨rfl, hy, hr, ht⟩
      · rw [hr]
        clear hr
        go_wp2_with fail
        refine (C9.out _).mono ?_; rintro e w2 ⟨rfl, hb2⟩
        go_wp2
        go_ret
        exact ⟨rfl, below_step hbW hb2⟩
      · rw [hr]
        have HT := Lib.hid ht
        clear hr ht
        go_wp2
        go_loop [12] (fun i => ∃ j : Nat, j ≤ 64 ∧ i = .int .i64 j) (fun i => 64 - (intOf i).toNat)
        case atStart => exact ⟨0, by omega, rfl⟩
        case round =>
          obtain ⟨i, hi, rfl⟩ := hrel
          by_cases hlt : i < 64
          · have ht := HT.out i hlt
            have D1 := Lib.hid (rbit_any n i hn (by omega))
            by_cases hin : p ≤ i ∧ i < p + q
            · rw [if_pos hin] at ht
              obtain ⟨bb, hbb⟩ : ∃ bb, v.testBit (i - p) = bb := ⟨_, rfl⟩
              rw [hbb] at ht
              have hin1 := hin.1
              have hin2 := hin.2
              have D2 := Lib.hid (rbit_int v (i - p) bb hv (by omega) (by omega) (by rw [show ((i : Int) - (p : Int)).toNat = i - p by omega, hbb]))
              have D3 := Lib.hid (rbit_int y i bb hy (by omega) (by omega) (by rw [Int.toNat_natCast, ht]))
              have hne : (bb != bb) = false := by simp
              clear ht hbb hin
              go_wp2_with fail
              refine (D1.out _).mono ?_; rintro e w' ⟨rfl, rfl⟩
              go_wp2_with fail
              refine (D2.out _).mono ?_; rintro e w' ⟨rfl, rfl⟩
              go_wp2_with fail
              refine (D3.out _).mono ?_; rintro e w' ⟨rfl, rfl⟩
              go_wp2
              go_round
              case rel => exact ⟨i + 1, by omega, by go_num⟩
              case measure => simp [intOf]; omega
            · rw [if_neg hin] at ht
              obtain ⟨bb, hbb⟩ : ∃ bb, n.testBit i = bb := ⟨_, rfl⟩
              rw [hbb] at ht
              have D2 := Lib.hid (rbit_int n i bb hn (by omega) (by omega) (by rw [Int.toNat_natCast, hbb]))
              have D3 := Lib.hid (rbit_int y i bb hy (by omega) (by omega) (by rw [Int.toNat_natCast, ht]))
              have hne : (bb != bb) = false := by simp
              have hin' : i < p ∨ (p ≤ i ∧ p + q ≤ i) := by omega
              clear ht hbb hin
              rcases hin' with h | ⟨h, h'⟩
              all_goals
                go_wp2_with fail
                refine (D2.out _).mono ?_; rintro e w' ⟨rfl, rfl⟩
                go_wp2_with fail
                refine (D3.out _).mono ?_; rintro e w' ⟨rfl, rfl⟩
                go_wp2
                go_round
                case rel => exact ⟨i + 1, by omega, by go_num⟩
                case measure => simp [intOf]; omega
          · go_wp2_with fail
            refine (C9.out _).mono ?_; rintro e w2 ⟨rfl, hb2⟩
            go_wp2
            go_ret
            exact ⟨rfl, below_step hbW hb2⟩
theorem bitsFields_walk (w : World) {n v : Int} {a : Value} (wn : (Lit.int .u64 n).wf = true) (wa : IsArr2 a) (wv : (Lit.int .u64 v).wf = true) :
    Calls Try.prog 9 #[.int .u64 n, a, .int .u64 v] w fun e w' => e = .returned (.bool true) ∧ Below w.heap.size w w' := by
  obtain ⟨p, q, rfl, ⟨p1, p2⟩, ⟨q1, q2⟩⟩ := wa
  obtain ⟨g, g'⟩ := bounds_u64 wn
  obtain ⟨f, f'⟩ := bounds_u64 wv
  by_cases h : p < 0 ∨ 63 < p ∨ q < 1 ∨ 64 - p < q
  · exact bitsFields_no n p q v h p1 p2 w
  · obtain ⟨N, rfl⟩ := Int.eq_ofNat_of_zero_le g
    obtain ⟨V, rfl⟩ := Int.eq_ofNat_of_zero_le f
    obtain ⟨P, rfl⟩ := Int.eq_ofNat_of_zero_le (show 0 ≤ p by omega)
    obtain ⟨Q, rfl⟩ := Int.eq_ofNat_of_zero_le (show 0 ≤ q by omega)
    exact bitsFields_in N P Q V (by omega) (by omega) (by omega) (by omega) (by omega) w
end Go.Proofs.Ytccmifmfegjonaa
